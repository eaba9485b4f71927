/- THE RULES OF A WALK: what is to be shown of code, over an environment of temporaries as a function; sound for the interpreter. No condition. -/
import Derived.Test.YtephfpdnhdpmkaaGreatDoorAmLim
open Int (reduceEq)
open Nat (reduceEqDiff reduceAdd reduceMul reduceLT reduceLeDiff)
set_option linter.all false
namespace Go.Am
open Go
abbrev Env:=Nat->AV
def upd (E:Env) (j:Nat) (v:AV):Env:=fun i=>if i=j then v else E i
def cH (E:Env) (d:Option Nat) (v:AV):Env:=
 match d with
 |some d=>upd E d v
 |none=>E
theorem oD (E:Env) (j:Nat) (v:AV) (i:Nat):upd E j v i=if i=j then v else E i:=(rfl)
theorem jK (E:Env) (j:Nat) (v:AV):cH E (some j) v=upd E j v:=(rfl)
theorem jD (E:Env) (v:AV):cH E none v=E:=(rfl)
def X.evE (E:Env):X->AV
 | .t i=>E i
 | .c v=>v
theorem AR (E:Env) (i:Nat):X.evE E (.t i)=E i:=(rfl)
theorem KU (E:Env) (v:AV):X.evE E (.c v)=v:=(rfl)
def qB (E:Env):List (Nat×Nat×X)->List (Nat×Nat×AV)
 |[]=>[]
 |(o,s,x)::r=>(o,s,x.evE E)::qB E r
def cJ (E:Env) (x:Option X) (d:Nat):Option Nat:=
 match x with
 |none=>some d
 |some x=>asNat (x.evE E)
def aw (o:AOp) (E:Env) (H:ab):Option AV:=
 match o with
 | .mv x=>some (x.evE E)
 | .pick c a b=>match c.evE E with
   | .bool t=>some (if t then a.evE E else b.evE E)
   |_=>none
 | .build zs ps=>(dJ zs (qB E ps)).map .agg
 | .aX sz len zs ps=>match dJ zs (qB E ps)with
   |some cs=>if aA cs&&cs.length==len*sz then some (.sl sz len cs (if len=0 then .e else .ro))else none
   |none=>none
 | .g8 sz len zs ps=>match dJ zs (qB E ps)with
   |some cs=>if aA cs&&cs.length==len*sz then some (.sl sz len cs .e)else none
   |none=>none
 | .mm mx x y=>match x.evE E,y.evE E with
   | .int k a,.int _ b=>some (.int k (if mx then(if a<b then b else a)else(if b<a then b else a)))
   |_,_=>none
 | .load sz ag x=>match x.evE E with
   | .ptr id off=>match H[id]? with
     |some (.cells cs)=>dK cs off sz ag
     |_=>none
   | .bU cs=>dK cs 0 sz ag
   |_=>none
 | .fld off x=>match x.evE E with
   | .ptr id o=>some (.ptr id (o+off))
   | .bU cs=>some (.bU (cs.drop off))
   |_=>none
 | .part off sz ag x=>match x.evE E with
   | .agg cs=>dK cs off sz ag
   |_=>none
 | .ixa sz x i=>match x.evE E,i.evE E with
   | .sl sz' n cs _,.int _ j=>if sz=sz'/\0<=j/\j<n then some (.bU (cs.drop (j.toNat*sz)))else none
   | .msl sz' id off n,.int _ j=>if sz=sz'/\0<=j/\j<n then some (.ptr id (off+j.toNat*sz))else none
   | .rsl sz' id n,.int _ j=>if sz=sz'/\0<=j/\j<n then some (.ptr id (j.toNat*sz))else none
   |_,_=>none
 | .bn n sz x i=>match x.evE E,i.evE E with
   | .ptr id off,.int _ j=>if 0<=j/\j<n then some (.ptr id (off+j.toNat*sz))else none
   | .bU cs,.int _ j=>if 0<=j/\j<n then some (.bU (cs.drop (j.toNat*sz)))else none
   |_,_=>none
 | .ixv n sz ag x i=>match x.evE E,i.evE E with
   | .agg cs,.int _ j=>if 0<=j/\j<n then dK cs (j.toNat*sz) sz ag else none
   |_,_=>none
 | .ixs x i=>match x.evE E,i.evE E with
   | .str s,.int _ j=>if 0<=j then(s[j.toNat]?).map fun b=> .int .u8 b.toNat else none
   |_,_=>none
 | .bin op ek x y=>bE op ek x y (x.evE E) (y.evE E)
 | .un op x=>unV op (x.evE E)
 | .conv k x=>match k,x.evE E with
   | .int k,.int _ n=>some (.int k (k.wrap n))
   | .same,.str s=>some (.str s)
   | .s2b,.str s=>if s.size<=70368744177664 then some (.sl 1 s.size (jj s) .ro)else none
   | .b2s,.sl sz n cs _=>if sz=1∨n=0 then(gO (cs.take n)).map fun l=> .str ⟨l.toArray⟩else none
   |_,_=>none
 | .nu t x=>some (.iface t (x.evE E))
 | .chk lx sx=>if ck (lx.map (·.evE E)) (sx.map (·.evE E))then some (.tup [])else none
 | .p7 x=>if aA (x.evE E).flat then some (.bU (x.evE E).flat)else none
 | .vd sz bytes x y=>match x.evE E,y.evE E with
   | .sl sz' 0 [] .e,.sl sz'' m ds _=>
     if 0<sz/\m*bytes<=70368744177664/\m<=70368744177664/\m≠0/\sz''=sz/\m*sz<=ds.length/\aA (ds.take (m*sz))=true then some (.sl sz m (ds.take (m*sz)) .ro)
     else if m=0 then some (.sl sz' 0 [] .e)else none
   |_,_=>none
 | .fO f caps=>some (.fn f (caps.map (·.evE E)))
 | .iT f fs=>some (.bnd f (fs.map (·.evE E)))
 | .rh x c=>match x.evE E,c.evE E with
   | .str s,.int .u8 k=>some (K3 (rA (UInt8.ofNat k.toNat) s.data.toList))
   |_,_=>none
 | .tZ x c=>match x.evE E,c.evE E with
   | .str s,.int .u8 k=>some (.int .i64 (s.data.toList.count (UInt8.ofNat k.toNat):Nat))
   |_,_=>none
 | .fM sz bytes zs l c=>match eo sz bytes zs (l.evE E) (c.evE E)with
   |some n=>some (.sl sz n (bX n zs) .e)
   |none=>none
 | .lookup kk zero x i ok=>match x.evE E with
   | .fj=>match bk kk (i.evE E) (i.evE E)with
     |some _=>some (if ok then .tup [zero,.bool false] else zero)
     |none=>none
   | .mp id=>match H[id]? with
     | some (.map es)=>match bk kk (i.evE E) (i.evE E),cw kk (i.evE E) es 0 with
       |some _,some (some (_,v))=>some (if ok then .tup [v,.bool true] else v)
       |some _,some none=>some (if ok then .tup [zero,.bool false] else zero)
       |_,_=>none
     |_=>none
   |_=>none
 | .eV t zero x ok=>match x.evE E with
   | .iface t' v=>if t'=t then some (if ok then .tup [v,.bool true] else v)else if ok then some (.tup [zero,.bool false])else none
   | .fI=>if ok then some (.tup [zero,.bool false])else none
   |_=>none
 | .ext x i=>match x.evE E with
   | .tup vs=>vs[i]?
   |_=>none
 | .slice sz x lo hi=>match x.evE E with
   | .sl sz' n cs tk=>match cJ E lo 0,cJ E hi n with
     | some l,some h=>
       if sz=sz'/\0<sz/\l<=h/\h*sz<=cs.length then
         some (if l=0/\h=n then .sl sz n cs tk else .sl sz (h-l) (cs.drop (l*sz)) .ro)
       else if tk.isZ=true/\l=0/\h=0 then some (.sl sz' n cs tk)else none
     |_,_=>none
   | .msl sz' id off n=>match cJ E lo 0,cJ E hi n with
     |some l,some h=>if sz=sz'/\0<sz/\l<=h/\h<=n then some (if l=h then .sl sz 0 [] .ro else .msl sz id (off+l*sz) (h-l))else none
     |_,_=>none
   |_=>none
 | .oq sz x lo hi mx=>match x.evE E with
   | .sl sz' n cs tk=>match cJ E lo 0,cJ E hi n,cJ E mx n with
     | some l,some h,some m=>
       if sz=sz'/\0<sz/\l<=h/\h=m/\h*sz<=cs.length/\tk.isZ=false then
         some (.sl sz (h-l) ((cs.take (h*sz)).drop (l*sz)) .ro)
       else none
     |_,_,_=>none
   | .msl sz' id off n=>match cJ E lo 0,cJ E hi n,cJ E mx n with
     |some l,some h,some m=>if sz=sz'/\0<sz/\l<=h/\h=m/\h<=n then some (if l=h then .sl sz 0 [] .ro else .msl sz id (off+l*sz) (h-l))else none
     |_,_,_=>none
   |_=>none
 | .fm x lo hi=>match x.evE E with
   | .str s=>match cJ E lo 0,cJ E hi s.size with
     |some l,some h=>if l<=h/\h<=s.size then some (.str (s.extract l h))else none
     |_,_=>none
   |_=>none
 | .kj n sz x lo hi=>match x.evE E with
   | .ptr id off=>match cJ E lo 0,cJ E hi n with
     |some l,some h=>if l<=h/\h<=n then some (if l=h then .sl sz 0 [] .ro else .msl sz id (off+l*sz) (h-l))else none
     |_,_=>none
   | .bU cs=>match cJ E lo 0,cJ E hi n with
     |some l,some h=>if l<=h/\h<=n/\n*sz<=cs.length then some (if l=h then .sl sz 0 [] .ro else .sl sz (h-l) ((cs.take (n*sz)).drop (l*sz)) .ro)else none
     |_,_=>none
   |_=>none
 | .mf n x=>match x.evE E with
   | .sl _ m cs _=>if 0<n/\n<=m then some (.bU cs)else none
   | .msl _ id off m=>if n<=m then some (.ptr id off)else none
   |_=>none
 | .len k x=>match k,x.evE E with
   |0,.sl _ n _ _=>some (.int .i64 n)
   |0,.msl _ _ _ n=>some (.int .i64 n)
   |0,.rsl _ _ n=>some (.int .i64 n)
   |1,.str s=>some (.int .i64 s.size)
   |2,.fj=>some (.int .i64 0)
   | 2,.mp id=>match H[id]? with
     |some (.map es)=>some (.int .i64 es.length)
     |_=>none
   |_,_=>none
 | .bf x=>match x.evE E with
   | .ptr id off=>some (.ptr id off)
   | .bU cs=>some (.bU cs)
   | .fn f cs=>some (.fn f cs)
   | .bnd f cs=>some (.bnd f cs)
   | .iface t v=>some (.iface t v)
   |_=>none
 |_=>none
def a8 (o:AOp) (E:Env) (H:ab):Option (Nx×ab):=
 match o with
 | .alloc zs=>some (.val (.ptr H.length 0),H++[.cells zs])
 | .box x=>if aA (x.evE E).flat then some (.val (.ptr H.length 0),H++[.cells (x.evE E).flat])else none
 | .store sz a x=>match a.evE E with
   | .ptr id off=>match H[id]? with
     | some (.cells cs)=>
       if(x.evE E).flat.length=sz/\off+sz<=cs.length/\aA (x.evE E).flat then
         some (.skip,H.set id (.cells (cs.take off++(x.evE E).flat++cs.drop (off+sz))))
       else none
     |_=>none
   |_=>none
 | .clr sz zs x=>match x.evE E with
   | .sl _ 0 _ _=>some (.val (.tup []),H)
   | .msl sz' id off n=>match H[id]? with
     | some (.cells cs)=>
       if sz'=sz/\zs.length=sz/\n≠0/\off+n*sz<=cs.length/\aA zs=true then
         some (.val (.tup []),H.set id (.cells (cs.take off++bX n zs++cs.drop (off+n*sz))))
       else none
     |_=>none
   |_=>none
 | .cpy sz x y=>match x.evE E,rowOf H (y.evE E)with
   | .msl sz' id off n,.sl sz'' m ds _=>match H[id]? with
     | some (.cells cs)=>
       if m=0 then some (.val (.int .i64 0),H)
       else if sz'=sz/\sz''=sz/\min m n*sz<=ds.length/\off+min m n*sz<=cs.length/\aA (ds.take (min m n*sz))=true then
         some (.val (.int .i64 (min m n:Nat)),H.set id (.cells (cs.take off++ds.take (min m n*sz)++cs.drop (off+min m n*sz))))
       else none
     |_=>none
   |_,_=>none
 | .iU=>some (.val (.mp H.length),H++[.map []])
 | .hO kk x k v=>match x.evE E with
   | .mp id=>match H[id]? with
     | some (.map es)=>match bk kk (k.evE E) (k.evE E),cw kk (k.evE E) es 0 with
       |some _,some (some (i,_))=>some (.skip,H.set id (.map (es.set i (k.evE E,v.evE E))))
       |some _,some none=>some (.skip,H.set id (.map (es++[(k.evE E,v.evE E)])))
       |_,_=>none
     |_=>none
   |_=>none
 | .append sz bytes x y=>eW sz bytes (x.evE E) (rowOf H (y.evE E)) H
 | .iK sz bytes x y=>match x.evE E,y.evE E with
   | .sl sz' n cs tk,.sl sz'' m ds _=>
     if 0<sz/\(n+m)*bytes<=70368744177664/\n+m<=70368744177664 then
       if m≠0/\sz''=sz/\m*sz<=ds.length/\aA (ds.take (m*sz))/\n=0/\tk.empty then some (.val (.msl sz H.length 0 m),H++[.cells (ds.take (m*sz))])
       else if m=0/\tk.empty then some (.val (.sl sz' n cs tk),H)else none
     else none
   |_,_=>none
 | .eY sz bytes x y=>kA sz bytes (x.evE E) (y.evE E) H
 | .br f args=>some (.enter f (args.map (·.evE E)),H)
 | .jt rw f args=>some (.dO rw f (args.map (·.evE E)),H)
 | .lP f args=>some (.dO false f (args.map (·.evE E)),H)
 | .rb x=>if aA (x.evE E).flat then some (.val (.ptr H.length 0),H++[.cells (x.evE E).flat])else none
 | .cf x args=>match x.evE E with
   | .fn f caps=>some (.enter f (args.map (·.evE E)++caps),H)
   | .bnd f fs=>some (.enter f (fs++args.map (·.evE E)),H)
   | .yld id=>some (.yield id (args.map (·.evE E)),H)
   |_=>none
 | .fy=>some (.fy,H)
 | .panic x=>match x.evE E with
   | .iface t v=>some (.pan (.iface t v),H)
   |_=>none
 | .dfr x args=>match x.evE E with
   | .fn f caps=>some (.dfr (.call f (args.map (·.evE E)++caps)),H)
   |_=>none
 | .dp sz bytes zs l c=>match eo sz bytes zs (l.evE E) (c.evE E)with
   |some n=>some (.val (.msl sz H.length 0 n),H++[.cells (bX n zs)])
   |none=>none
 | .oc sz len zs ps=>match dJ zs (qB E ps)with
   |some cs=>if aA cs&&cs.length==len*sz then some (.val (.rsl sz H.length len),H++[.cells cs])else none
   |none=>none
 | .ue sz bytes zs x n=>match x.evE E,eo sz bytes zs (n.evE E) (n.evE E)with
   | .sl sz' k cs (.own g),some m=>eW sz bytes (.sl sz' k cs (.own g)) (.sl sz m (bX m zs) .ro) H
   | .rsl sz' id k,some m=>kA sz bytes (.rsl sz' id k) (.sl sz m (bX m zs) .ro) H
   |_,_=>none
 |_=>none
theorem sL {k:Nat} {x:X} {E:Env} {H:ab}:aw (.len k x) E H=(match k,x.evE E with
   |0,.sl _ n _ _=>some (.int .i64 n)
   |0,.msl _ _ _ n=>some (.int .i64 n)
   |0,.rsl _ _ n=>some (.int .i64 n)
   |1,.str s=>some (.int .i64 s.size)
   |2,.fj=>some (.int .i64 0)
   | 2,.mp id=>match H[id]? with
     |some (.map es)=>some (.int .i64 es.length)
     |_=>none
   |_,_=>none):=(rfl)
theorem pt {k:CvK} {x:X} {E:Env} {H:ab}:aw (.conv k x) E H=(match k,x.evE E with
   | .int k,.int _ n=>some (.int k (k.wrap n))
   | .same,.str s=>some (.str s)
   | .s2b,.str s=>if s.size<=70368744177664 then some (.sl 1 s.size (jj s) .ro)else none
   | .b2s,.sl sz n cs _=>if sz=1∨n=0 then(gO (cs.take n)).map fun l=> .str ⟨l.toArray⟩else none
   |_,_=>none):=(rfl)
def EV (tm:List AV):Env:=fun i=>tm.getD i (.tup [])
theorem hI (tm:List AV) (x:X):x.ev tm=x.evE (EV tm):=by cases x<;>rfl
theorem yU (tm:List AV):∀ps,evP tm ps=qB (EV tm) ps
 |[]=>rfl
 |(o,s,x)::r=>by simp only[evP,qB,hI,yU tm r]
theorem GN (tm:List AV) (x:Option X) (d:Nat):bound tm x d=cJ (EV tm) x d:=by
 cases x with
 |none=>rfl
 |some x=>simp only[bound,cJ,hI]
theorem AI (tm:List AV) (o:AOp) (H:ab):aT o tm H=aw o (EV tm) H:=by
 have h:(fun x:X=>x.ev tm)=(fun x:X=>x.evE (EV tm)):=funext (hI tm)
 cases o<;>(try simp only[aT,aw,hI,yU,GN])<;>(try rfl)
theorem Kd (tm:List AV) (o:AOp) (H:ab):bI o tm H=a8 o (EV tm) H:=by
 have h:(fun x:X=>x.ev tm)=(fun x:X=>x.evE (EV tm)):=funext (hI tm)
 cases o<;>(try simp only[bI,a8,hI,yU])<;>(try rfl)
def cQ (E:Env) (g:Option (Nat×Bool)):Bool:=
 match g with
 |none=>true
 | some (t,b)=>match E t with
   | .bool b'=>b'==b
   |_=>false
theorem mq (tm:List AV) (g:Option (Nat×Bool)):bC tm g=cQ (EV tm) g:=by
 cases g with
 |none=>rfl
 | some g=>
   obtain⟨t,b⟩:=g;simp only[bC,cQ,EV,List.getD]
   cases tm[t]? with
   |none=>rfl
   |some v=>cases v<;>rfl
def Ag (n:Nat) (tm:List AV) (E:Env):Prop:=tm.length=n/\EV tm=E
theorem Ag.set {n:Nat} {tm:List AV} {E:Env} (h:Ag n tm E) {j:Nat} (hj:j<n) (v:AV):Ag n (tm.set j v) (upd E j v):=by
 refine⟨by rw[List.length_set];exact h.1, ?_⟩;rw[<-h.2]
 funext i
 simp only[EV,upd,List.getD,List.getElem?_set];by_cases hi:j=i
 . subst hi;simp[h.1,hj]
 . rw[if_neg hi,if_neg (fun e=>hi e.symm)]
def D6 (n:Nat):Option Nat->Bool
 |some d=>Nat.blt d n
 |none=>true
theorem Ag.bV {n:Nat} {tm:List AV} {E:Env} (h:Ag n tm E) {d:Option Nat} (hj:D6 n d=true) (v:AV):Ag n (bV tm d v) (cH E d v):=by
 cases d with
 |none=>exact h
 |some d=>exact h.set (by simpa[D6,Nat.blt_eq] using hj) v
def k9 (n:Nat):List ai->Bool
 |[]=>true
 |o::r=>D6 n o.dst&&k9 n r
def aH.fits (n:Nat):aH->Bool
 | .region ops=>k9 n ops
 | .drawn a b=>k9 n a&&k9 n b
 | .seq a b=>a.fits n&&b.fits n
 | .cond _ a b=>a.fits n&&b.fits n
 | .block _ a=>a.fits n
 | .loop a=>a.fits n
 | .range _ _ a b=>a.fits n&&b.fits n
 | .scope a=>a.fits n
 | .b7 a b=>a.fits n&&b.fits n
 |_=>true
abbrev KP:=Ex->Env->List ADf->ab->Prop
def wpr (cb:CB) (K:KP):List ai->Env->List ADf->ab->Prop
 |[],E,df,H=>K .normal E df H
 | o::rest,E,df,H=>
   if cQ E o.guard then
     match aw o.op E H with
     |some v=>wpr cb K rest (cH E o.dst v) df H
     | none=>
       match a8 o.op E H with
       |some (.val v,H')=>wpr cb K rest (cH E o.dst v) df H'
       |some (.skip,H')=>wpr cb K rest (cH E o.dst (.tup [])) df H'
       | some (.enter f args,H')=>
         match dL cb f args H' with
         |some (.ret v,H'')=>wpr cb K rest (cH E o.dst v) df H''
         |some (.pan c,H'')=>K (.panic c) E df H''
         |none=>False
       | some (.dO rw f args,H')=>
         match eE cb rw f args H' with
         |some (.ret v,H'')=>wpr cb K rest (cH E o.dst v) df H''
         |some (.pan c,H'')=>K (.panic c) E df H''
         |none=>False
       | some (.yield id args,H')=>
         match cb.yl id args H' with
         |some (.ret v,H'')=>wpr cb K rest (cH E o.dst v) df H''
         |some (.pan c,H'')=>K (.panic c) E df H''
         |none=>False
       |some (.pan v,H')=>K (.panic [(v,false)]) E df H'
       |some (.dfr d,H')=>wpr cb K rest (cH E o.dst (.tup [])) (d::df) H'
       |_=>False
   else wpr cb K rest (cH E o.dst (.tup [])) df H
def nD:List ai->Bool
 |[]=>true
 |o::r=>(match o.op with| .dfr _ _=>false|_=>true)&&nD r
def aH.plain:aH->Bool
 | .region ops=>nD ops
 | .drawn _ b=>nD b
 | .seq a b=>a.plain&&b.plain
 | .cond _ a b=>a.plain&&b.plain
 | .block _ a=>a.plain
 | .loop a=>a.plain
 | .range _ _ _ _=>false
 | .scope a=>a.plain
 | .b7 a b=>a.plain&&b.plain
 |_=>true
def OZ (rd:Option Nat) (c:aH):Prop:=rd=none∨c.plain=true
def KE (rd:Option Nat) (c:List ai):Prop:=rd=none∨nD c=true
theorem yZ {cb:CB} {rd:Option Nat} {n:Nat} {K:KP}:∀(ops:List ai) (E:Env) (df:List ADf) (H:ab) (tm:List AV),k9 n ops=true->KE rd ops->Ag n tm E->wpr cb K ops E df H→
   ∃e fr H',aU cb rd ops ⟨tm,df⟩ H=some (e,fr,H')/\∃E',Ag n fr.tm E'/\K e E' fr.df H':=by
 intro ops
 induction ops with
 |nil=>intro E df H tm _ _ ha h;exact⟨.normal,_,_,rfl,E,ha,h⟩
 | cons o ops ih=>
   intro E df H tm hf hok ha h;simp only[k9,Bool.and_eq_true]at hf
   have hok':KE rd ops:=by
     rcases hok with h|h
     . exact .inl h
     . simp only[nD,Bool.and_eq_true]at h;exact .inr h.2
   have hE:=ha.2;rw[aU];rw[wpr]at h;simp only[mq,AI,Kd,hE];split at h
   . rename_i hw;rw[if_pos hw];split at h
     . rename_i hv;rw[hv];exact ih _ _ _ _ hf.2 hok' (ha.bV hf.1 _) h
     . rename_i hv;rw[hv];simp only;split at h
       . rename_i hx;rw[hx];exact ih _ _ _ _ hf.2 hok' (ha.bV hf.1 _) h
       . rename_i hx;rw[hx];exact ih _ _ _ _ hf.2 hok' (ha.bV hf.1 _) h
       . rename_i hx;rw[hx];simp only;split at h
         . rename_i hy;rw[hy];exact ih _ _ _ _ hf.2 hok' (ha.bV hf.1 _) h
         . rename_i hy;rw[hy];exact⟨_,_,_,rfl,E,ha,h⟩
         . exact h.elim
       . rename_i hx;rw[hx];simp only;split at h
         . rename_i hy;rw[hy];exact ih _ _ _ _ hf.2 hok' (ha.bV hf.1 _) h
         . rename_i hy;rw[hy];exact⟨_,_,_,rfl,E,ha,h⟩
         . exact h.elim
       . rename_i hx;rw[hx];simp only;split at h
         . rename_i hy;rw[hy];exact ih _ _ _ _ hf.2 hok' (ha.bV hf.1 _) h
         . rename_i hy;rw[hy];exact⟨_,_,_,rfl,E,ha,h⟩
         . exact h.elim
       . rename_i hx;rw[hx];exact⟨_,_,_,rfl,E,ha,h⟩
       . rename_i d H' hx;rw[hx];simp only
         have hrd:rd.isSome=false:=by
           rcases hok with h|h
           . rw[h];rfl
           . simp only[nD,Bool.and_eq_true]at h;have h1:=h.1;exfalso;revert hx h1
             cases o.op<;>simp only[a8]<;>intro hx h1<;>(try cases h1)<;>(try (cases hx))<;>(repeat' split at hx)<;>(try cases hx)<;>(try (simp only[eW,kA]at hx))<;>(repeat' split at hx)<;>(try cases hx)
         simp only[hrd,Bool.false_eq_true,if_false];exact ih _ _ _ _ hf.2 hok' (ha.bV hf.1 _) h
       . exact h.elim
   . rename_i hw;rw[if_neg hw];exact ih _ _ _ _ hf.2 hok' (ha.bV hf.1 _) h
def LO (h:Nat) (op:AOp) (E:Env) (G:ab) (g:Nat):Option (AV×Option av):=
 match op with
 | .og sz bytes x y=>kR sz bytes (x.evE E) (y.evE E) g
 | .iA sz bytes zs x n=>ry h sz bytes zs (x.evE E) (n.evE E) G g
 |_=>none
theorem LS (h:Nat) (op:AOp) (tm:List AV) (G:ab) (g:Nat):apX h op tm G g=LO h op (EV tm) G g:=by
 cases op<;>simp only[apX,LO,hI]
def cd (cb:CB) (H G:ab) (o:ai) (E:Env) (g:Nat):Option (AV×Option av):=
 if cQ E o.guard then
   match aw o.op E H with
   |some v=>some (v,none)
   | none=>
     match o.op with
     | .alloc zs=>some (.ptr g 0,some (.cells zs))
     | .lookup kk zero (.t i) k ok=>(aw (.lookup kk zero (.t i) k ok) E G).map fun v=>(v,none)
     | .br f args=>
       match pcx cb f (args.map (·.evE E)) H with
       |some (.plain v)=>some (v,none)
       |some (.fresh sz n cs)=>some (.sl sz n cs (.own g),some (.tok sz))
       |some (.ir es)=>some (.mp g,some (.map es))
       |_=>none
     | .cf x args=>
       match gR (x.evE E) (args.map (·.evE E))with
       | some (f,as)=>
         match pcx cb f as H with
         |some (.plain v)=>some (v,none)
         |some (.fresh sz n cs)=>some (.sl sz n cs (.own g),some (.tok sz))
         |some (.ir es)=>some (.mp g,some (.map es))
         |_=>none
       |none=>none
     | .lP f args=>
       match pcx cb f (args.map (·.evE E)) H with
       |some (.fresh sz n cs)=>if cs.all (·.iZ)&&cs.length==n*sz then some (.msl sz g 0 n,some (.cells cs))else none
       |_=>none
     | .rb x=>if aA (x.evE E).flat then some (.ptr g 0,some (.cells (x.evE E).flat))else none
     |op=>LO H.length op E G g
 else some (.tup [],none)
def p9 (o:ai) (E:Env):Option Nat:=
 match o.op with
 | .iA _ _ _ x _=>if cQ E o.guard then(match x.evE E with
   | .sl _ _ _ (.own g0)=>some g0
   |_=>none)else none
 |_=>none
theorem BB (o:ai) (tm:List AV):bM o tm=p9 o (EV tm):=by
 unfold bM p9;rw[mq]
 cases o.op<;>(try simp only[hI])<;>(try rfl)<;>(split<;>rfl)
theorem Lo (cb:CB) (H G:ab) (o:ai) (tm:List AV) (g:Nat):ap1 cb H G o tm g=cd cb H G o (EV tm) g:=by
 have h:(fun x:X=>x.ev tm)=(fun x:X=>x.evE (EV tm)):=funext (hI tm);simp only[ap1,cd,mq,AI,LS]
 cases o.op<;>(try simp only[hI])<;>(try rfl)
def oO (H:ab) (e:List av):ab:=H++e
def zg (cb:CB) (H:ab) (K:Env->List av->Prop):List ai->Env->List av->Prop
 |[],E,e=>K E e
 | o::rest,E,e=>
   match cd cb H (oO H e) o E (H.length+e.length)with
   |some (v,k)=>zg cb H K rest (cH E o.dst v) (kx H.length (p9 o E) (e++k.toList))
   |none=>False
theorem HY {cb:CB} {n:Nat} {H:ab} {K:Env->List av->Prop}:∀(ops:List ai) (E:Env) (e:List av) (tm:List AV),k9 n ops=true->Ag n tm E->zg cb H K ops E e→
   ∃tm' e',iW cb H ops tm e=some (tm',e')/\∃E',Ag n tm' E'/\K E' e':=by
 intro ops
 induction ops with
 |nil=>intro E e tm _ ha h;exact⟨_,_,rfl,E,ha,h⟩
 | cons o ops ih=>
   intro E e tm hf ha h;simp only[k9,Bool.and_eq_true]at hf;rw[iW,Lo,ha.2];rw[zg]at h;split at h
   . rename_i hv;rw[show H++e=oO H e from rfl,hv];rw[BB,ha.2];exact ih _ _ _ hf.2 (ha.bV hf.1 _) h
   . exact h.elim
def qh (cb:CB) (rd:Option Nat) (n:Nat) (c:aH) (K:KP) (E:Env) (df:List ADf) (H:ab):Prop:=
 ∀tm,Ag n tm E->∃e fr H',cb.run rd c ⟨tm,df⟩ H=some (e,fr,H')/\∃E',Ag n fr.tm E'/\K e E' fr.df H'
def zp (cb:CB) (rd:Option Nat) (n:Nat) (x:X) (ps:List Nat) (as bd:aH) (K:KP) (E:Env) (df:List ADf) (H:ab):Prop:=
 ∀ tm,Ag n tm E→
   match (match rd with
     |none=>some (H.length+1,.mark H.length::df,H++[.gA,.loop 0 .normal tm ps as bd])
     | some l=>match ca H l with
       |some _=>some (H.length,df,H++[.loop 0 .normal tm ps as bd])
       |none=>none)with
   | some (id,df1,H1)=>
     match x.evE E with
     | .fn f caps=>
       match cb.ic f (.yld id::caps) H1 with
       | some (.ret _,H2)=>
         match ca H2 id with
         |some (st,pend,tm',ps',as',bd')=>st≠1/\pend.jumps=true/\K pend E df1 (H2.set id (.loop 3 pend tm' ps' as' bd'))
         |none=>False
       |_=>False
     |_=>False
   |none=>False
def wpc (cb:CB) (rd:Option Nat) (n:Nat):aH->KP->Env->List ADf->ab->Prop
 | .skip,K,E,df,H=>K .normal E df H
 | .label _,K,E,df,H=>K .normal E df H
 | .exit id,K,E,df,H=>K (.exit id) E df H
 | .goto l,K,E,df,H=>K (.goto l) E df H
 | .ret,K,E,df,H=>K .ret E df H
 | .region ops,K,E,df,H=>wpr cb K ops E df H
 | .drawn pre tail,K,E,df,H=>zg cb H (fun E' e=>wpr cb K tail E' df (H++e)) pre E []
 | .seq a b,K,E,df,H=>wpc cb rd n a (fun e E' df' H'=>match e with| .normal=>wpc cb rd n b K E' df' H'|e=>K e E' df' H') E df H
 | .cond x a b,K,E,df,H=>match x.evE E with
   | .bool true=>wpc cb rd n a K E df H
   | .bool false=>wpc cb rd n b K E df H
   |_=>False
 | .block id a,K,E,df,H=>wpc cb rd n a (fun e E' df' H'=>match e with| .exit id'=>if id'=id then K .normal E' df' H' else K (.exit id') E' df' H'|e=>K e E' df' H') E df H
 | .loop a,K,E,df,H=>wpc cb rd n a (fun e E' df' H'=>match e with| .normal=>qh cb rd n (.loop a) K E' df' H'|e=>K e E' df' H') E df H
 | .scope a,K,E,df,H=>wpc cb rd n a (fun e E' df' H'=>match e with
   | .goto l=>match e7 a l with
     |some rest=>qh cb rd n (.b7 a rest) K E' df' H'
     |none=>K (.goto l) E' df' H'
   |e=>K e E' df' H') E df H
 | .b7 w a,K,E,df,H=>wpc cb rd n a (fun e E' df' H'=>match e with
   | .goto l=>match e7 w l with
     |some rest=>qh cb rd n (.b7 w rest) K E' df' H'
     |none=>K (.goto l) E' df' H'
   |e=>K e E' df' H') E df H
 | .range x ps as bd,K,E,df,H=>zp cb rd n x ps as bd K E df H
def aH.rng:aH->Bool
 | .range _ _ _ _=>true
 | .seq a b=>a.rng||b.rng
 | .cond _ a b=>a.rng||b.rng
 | .block _ a=>a.rng
 | .loop a=>a.rng
 | .scope a=>a.rng
 | .b7 a b=>a.rng||b.rng
 |_=>false
def aH.iu:aH->Bool
 | .region ops=>nD ops
 | .drawn _ b=>nD b
 | .seq a b=>a.iu&&b.iu
 | .cond _ a b=>a.iu&&b.iu
 | .block _ a=>a.iu
 | .loop a=>a.iu
 | .range _ _ _ _=>true
 | .scope a=>a.iu
 | .b7 a b=>a.iu&&b.iu
 |_=>true
theorem nj {cb:CB} {rd:Option Nat} {n:Nat}:∀(c:aH) (K:KP) (E:Env) (df:List ADf) (H:ab) (tm:List AV),c.fits n=true->(rd=none∨c.iu=true)->Ag n tm E->wpc cb rd n c K E df H→
   ∃e fr H',aN cb rd c ⟨tm,df⟩ H=some (e,fr,H')/\∃E',Ag n fr.tm E'/\K e E' fr.df H':=by
 intro c
 induction c with
 |skip=>intro K E df H tm _ _ ha h;exact⟨_,_,_,rfl,E,ha,h⟩
 |label l=>intro K E df H tm _ _ ha h;exact⟨_,_,_,rfl,E,ha,h⟩
 |exit l=>intro K E df H tm _ _ ha h;exact⟨_,_,_,rfl,E,ha,h⟩
 |goto l=>intro K E df H tm _ _ ha h;exact⟨_,_,_,rfl,E,ha,h⟩
 |ret=>intro K E df H tm _ _ ha h;exact⟨_,_,_,rfl,E,ha,h⟩
 |region ops=>intro K E df H tm hf ho ha h;exact yZ ops E df H tm hf ho ha h
 | drawn pre tail=>
   intro K E df H tm hf ho ha h;simp only[aH.fits,Bool.and_eq_true]at hf;obtain⟨tm',e',h1,E',h2,h3⟩:=HY pre E [] tm hf.1 ha h;rw[aN,h1];exact yZ tail E' df _ tm' hf.2 ho h2 h3
 | seq a b iha ihb=>
   intro K E df H tm hf ho ha h;simp only[aH.fits,Bool.and_eq_true]at hf;obtain⟨e,fr,H',h1,E',h2,h3⟩:=iha _ E df H tm hf.1 (ho.imp id fun h=>by simp only[aH.iu,Bool.and_eq_true]at h;exact h.1) ha h;rw[aN,h1]
   cases e with
   |normal=>exact ihb K E' fr.df H' fr.tm hf.2 (ho.imp id fun h=>by simp only[aH.iu,Bool.and_eq_true]at h;exact h.2) h2 h3
   |_=>exact⟨_,_,_,rfl,E',h2,h3⟩
 | cond x a b iha ihb=>
   intro K E df H tm hf ho ha h;simp only[aH.fits,Bool.and_eq_true]at hf;rw[aN];simp only[hI,ha.2];rw[wpc]at h;split at h
   . rename_i hv;rw[hv];exact iha K E df H tm hf.1 (ho.imp id fun h=>by simp only[aH.iu,Bool.and_eq_true]at h;exact h.1) ha h
   . rename_i hv;rw[hv];exact ihb K E df H tm hf.2 (ho.imp id fun h=>by simp only[aH.iu,Bool.and_eq_true]at h;exact h.2) ha h
   . exact h.elim
 | block id a ih=>
   intro K E df H tm hf ho ha h;obtain⟨e,fr,H',h1,E',h2,h3⟩:=ih _ E df H tm hf ho ha h;rw[aN,h1]
   cases e with
   | exit id'=>
     simp only at h3 ⊢;split at h3
     . rename_i hv;rw[if_pos hv];exact⟨_,_,_,rfl,E',h2,h3⟩
     . rename_i hv;rw[if_neg hv];exact⟨_,_,_,rfl,E',h2,h3⟩
   |_=>exact⟨_,_,_,rfl,E',h2,h3⟩
 | loop a ih=>
   intro K E df H tm hf ho ha h;obtain⟨e,fr,H',h1,E',h2,h3⟩:=ih _ E df H tm hf ho ha h;rw[aN,h1]
   cases e with
   |normal=>exact h3 fr.tm h2
   |_=>exact⟨_,_,_,rfl,E',h2,h3⟩
 | scope a ih=>
   intro K E df H tm hf ho ha h;obtain⟨e,fr,H',h1,E',h2,h3⟩:=ih _ E df H tm hf ho ha h;rw[aN,h1]
   cases e with
   | goto l=>
     simp only at h3 ⊢;split at h3
     . rename_i hv;rw[hv];exact h3 fr.tm h2
     . rename_i hv;rw[hv];exact⟨_,_,_,rfl,E',h2,h3⟩
   |_=>exact⟨_,_,_,rfl,E',h2,h3⟩
 | b7 w a ihw ih=>
   intro K E df H tm hf ho ha h;simp only[aH.fits,Bool.and_eq_true]at hf;obtain⟨e,fr,H',h1,E',h2,h3⟩:=ih _ E df H tm hf.2 (ho.imp id fun h=>by simp only[aH.iu,Bool.and_eq_true]at h;exact h.2) ha h;rw[aN,h1]
   cases e with
   | goto l=>
     simp only at h3 ⊢;split at h3
     . rename_i hv;rw[hv];exact h3 fr.tm h2
     . rename_i hv;rw[hv];exact⟨_,_,_,rfl,E',h2,h3⟩
   |_=>exact⟨_,_,_,rfl,E',h2,h3⟩
 | range x ps as bd=>
   intro K E df H tm _ _ ha h;unfold aN;simp only[hI,ha.2];unfold wpc zp at h;have h:=h tm ha
   cases rd with
   | none=>
     simp only at h ⊢;split at h
     . rename_i f caps hx;rw[hx];simp only;split at h
       . rename_i v H2 hic;rw[hic];simp only;split at h
         . rename_i st pend tm' ps' as' bd' hrl;rw[hrl];obtain⟨k1,k2,k3⟩:=h;simp only;rw[if_neg (by simp[k1,k2])];exact⟨_,_,_,rfl,E,ha,k3⟩
         . exact h.elim
       . exact h.elim
     . exact h.elim
   | some l=>
     simp only at h ⊢;split at h
     . rename_i id df1 H1 heq;split at heq
       . rename_i hrl0;cases heq;rw[hrl0];simp only;split at h
         . rename_i f caps hx;rw[hx];simp only;split at h
           . rename_i v H2 hic;rw[hic];simp only;split at h
             . rename_i st pend tm' ps' as' bd' hrl;rw[hrl];obtain⟨k1,k2,k3⟩:=h;simp only;rw[if_neg (by simp[k1,k2])];exact⟨_,_,_,rfl,E,ha,k3⟩
             . exact h.elim
           . exact h.elim
         . exact h.elim
       . cases heq
     . exact h.elim
theorem Fg {tab:FuncId->Option an} {rd:Option Nat} {n:Nat} {c:aH} {K:KP} {E:Env} {df:List ADf} {H:ab} (hf:c.fits n=true) (ho:rd=none∨c.iu=true) (h:wpc (cbL tab) rd n c K E df H):qh (cbL tab) rd n c K E df H:=by
 intro tm ha;obtain⟨e,fr,H',h1,h2⟩:=nj c K E df H tm hf ho ha h;exact⟨e,fr,H',DH h1,h2⟩
inductive Kt where
 |code (c:aH)
 |blk (id:Nat)
 |again (c:aH)
 |scp (w:aH)
def Ret (cb:CB) (rd:Option Nat) (n:Nat) (Q:KP):List Kt->KP
 |[],e,E,df,H=>Q e E df H
 | .code c::ks,.normal,E,df,H=>wpc cb rd n c (Ret cb rd n Q ks) E df H
 | .again c::ks,.normal,E,df,H=>qh cb rd n c (Ret cb rd n Q ks) E df H
 | .blk id::ks,.exit j,E,df,H=>if j=id then Ret cb rd n Q ks .normal E df H else Ret cb rd n Q ks (.exit j) E df H
 | .scp w::ks,.goto l,E,df,H=>match e7 w l with
   |some rest=>qh cb rd n (.b7 w rest) (Ret cb rd n Q ks) E df H
   |none=>Ret cb rd n Q ks (.goto l) E df H
 |_::ks,e,E,df,H=>Ret cb rd n Q ks e E df H
def RR (cb:CB) (rd:Option Nat) (n:Nat) (Q:KP) (ops:List ai) (ks:List Kt) (E:Env) (df:List ADf) (H:ab):Prop:=wpr cb (Ret cb rd n Q ks) ops E df H
section rules
variable {cb:CB} {rd:Option Nat} {n:Nat} {Q:KP} {ks:List Kt} {E:Env} {df:List ADf} {H:ab}
theorem AG {e:Ex}:Ret cb rd n Q [] e E df H=Q e E df H:=(rfl)
theorem vk:Ret cb rd n Q (.code .skip::ks) .normal E df H=Ret cb rd n Q ks .normal E df H:=(rfl)
theorem sP {l:Nat}:Ret cb rd n Q (.code (.label l)::ks) .normal E df H=Ret cb rd n Q ks .normal E df H:=(rfl)
theorem xC {id:Nat}:Ret cb rd n Q (.code (.exit id)::ks) .normal E df H=Ret cb rd n Q ks (.exit id) E df H:=(rfl)
theorem wI {l:Nat}:Ret cb rd n Q (.code (.goto l)::ks) .normal E df H=Ret cb rd n Q ks (.goto l) E df H:=(rfl)
theorem AS:Ret cb rd n Q (.code .ret::ks) .normal E df H=Ret cb rd n Q ks .ret E df H:=(rfl)
theorem oQ {ops:List ai}:Ret cb rd n Q (.code (.region ops)::ks) .normal E df H=RR cb rd n Q ops ks E df H:=(rfl)
theorem zJ {a b:aH}:Ret cb rd n Q (.code (.seq a b)::ks) .normal E df H=Ret cb rd n Q (.code a:: .code b::ks) .normal E df H:=by
 show wpc cb rd n (.seq a b) _ E df H=wpc cb rd n a _ E df H
 rw[wpc];congr 1
 funext e E' df' H'
 cases e<;>rfl
theorem tc {a:aH} {id:Nat}:Ret cb rd n Q (.code (.block id a)::ks) .normal E df H=Ret cb rd n Q (.code a:: .blk id::ks) .normal E df H:=by
 show wpc cb rd n (.block id a) _ E df H=wpc cb rd n a _ E df H
 rw[wpc];congr 1
 funext e E' df' H'
 cases e<;>rfl
theorem eZ {a:aH}:Ret cb rd n Q (.code (.loop a)::ks) .normal E df H=Ret cb rd n Q (.code a:: .again (.loop a)::ks) .normal E df H:=by
 show wpc cb rd n (.loop a) _ E df H=wpc cb rd n a _ E df H
 rw[wpc];congr 1
 funext e E' df' H'
 cases e<;>rfl
theorem sM {a:aH}:Ret cb rd n Q (.code (.scope a)::ks) .normal E df H=Ret cb rd n Q (.code a:: .scp a::ks) .normal E df H:=by
 show wpc cb rd n (.scope a) _ E df H=wpc cb rd n a _ E df H
 rw[wpc];congr 1
 funext e E' df' H'
 cases e<;>rfl
theorem nV {w a:aH}:Ret cb rd n Q (.code (.b7 w a)::ks) .normal E df H=Ret cb rd n Q (.code a:: .scp w::ks) .normal E df H:=by
 show wpc cb rd n (.b7 w a) _ E df H=wpc cb rd n a _ E df H
 rw[wpc];congr 1
 funext e E' df' H'
 cases e<;>rfl
def xX (v:AV) (a b:aH) (cb:CB) (rd:Option Nat) (n:Nat) (Q:KP) (ks:List Kt) (E:Env) (df:List ADf) (H:ab):Prop:=
 match v with
 | .bool true=>Ret cb rd n Q (.code a::ks) .normal E df H
 | .bool false=>Ret cb rd n Q (.code b::ks) .normal E df H
 |_=>False
theorem xv {x:X} {a b:aH}:Ret cb rd n Q (.code (.cond x a b)::ks) .normal E df H=xX (x.evE E) a b cb rd n Q ks E df H:=(rfl)
theorem oT {a b:aH}:xX (.bool true) a b cb rd n Q ks E df H=Ret cb rd n Q (.code a::ks) .normal E df H:=(rfl)
theorem nU {a b:aH}:xX (.bool false) a b cb rd n Q ks E df H=Ret cb rd n Q (.code b::ks) .normal E df H:=(rfl)
theorem ya {p:Prop} [Decidable p] {a b:aH} (h:p):xX (.bool (decide p)) a b cb rd n Q ks E df H=Ret cb rd n Q (.code a::ks) .normal E df H:=by
 rw[decide_eq_true h];rfl
theorem xA {p:Prop} [Decidable p] {a b:aH} (h:¬p):xX (.bool (decide p)) a b cb rd n Q ks E df H=Ret cb rd n Q (.code b::ks) .normal E df H:=by
 rw[decide_eq_false h];rfl
theorem jY {c:aH} {j:Nat}:Ret cb rd n Q (.code c::ks) (.exit j) E df H=Ret cb rd n Q ks (.exit j) E df H:=(rfl)
theorem jZ {c:aH} {j:Nat}:Ret cb rd n Q (.code c::ks) (.goto j) E df H=Ret cb rd n Q ks (.goto j) E df H:=(rfl)
theorem ml {c:aH}:Ret cb rd n Q (.code c::ks) .ret E df H=Ret cb rd n Q ks .ret E df H:=(rfl)
theorem jf {c:aH} {p:List (AV×Bool)}:Ret cb rd n Q (.code c::ks) (.panic p) E df H=Ret cb rd n Q ks (.panic p) E df H:=(rfl)
theorem jh {c:aH} {j:Nat}:Ret cb rd n Q (.again c::ks) (.exit j) E df H=Ret cb rd n Q ks (.exit j) E df H:=(rfl)
theorem jm {c:aH} {j:Nat}:Ret cb rd n Q (.again c::ks) (.goto j) E df H=Ret cb rd n Q ks (.goto j) E df H:=(rfl)
theorem kr {c:aH}:Ret cb rd n Q (.again c::ks) .ret E df H=Ret cb rd n Q ks .ret E df H:=(rfl)
theorem iV {c:aH} {p:List (AV×Bool)}:Ret cb rd n Q (.again c::ks) (.panic p) E df H=Ret cb rd n Q ks (.panic p) E df H:=(rfl)
theorem ju {id:Nat}:Ret cb rd n Q (.blk id::ks) .normal E df H=Ret cb rd n Q ks .normal E df H:=(rfl)
theorem mh {id j:Nat}:Ret cb rd n Q (.blk id::ks) (.exit j) E df H=if j=id then Ret cb rd n Q ks .normal E df H else Ret cb rd n Q ks (.exit j) E df H:=(rfl)
theorem lN {id j:Nat}:Ret cb rd n Q (.blk id::ks) (.goto j) E df H=Ret cb rd n Q ks (.goto j) E df H:=(rfl)
theorem nF {id:Nat}:Ret cb rd n Q (.blk id::ks) .ret E df H=Ret cb rd n Q ks .ret E df H:=(rfl)
theorem ki {id:Nat} {p:List (AV×Bool)}:Ret cb rd n Q (.blk id::ks) (.panic p) E df H=Ret cb rd n Q ks (.panic p) E df H:=(rfl)
theorem ji {w:aH}:Ret cb rd n Q (.scp w::ks) .normal E df H=Ret cb rd n Q ks .normal E df H:=(rfl)
theorem lJ {w:aH} {j:Nat}:Ret cb rd n Q (.scp w::ks) (.exit j) E df H=Ret cb rd n Q ks (.exit j) E df H:=(rfl)
theorem nQ {w:aH}:Ret cb rd n Q (.scp w::ks) .ret E df H=Ret cb rd n Q ks .ret E df H:=(rfl)
theorem kh {w:aH} {p:List (AV×Bool)}:Ret cb rd n Q (.scp w::ks) (.panic p) E df H=Ret cb rd n Q ks (.panic p) E df H:=(rfl)
theorem gj {w rest:aH} {l:Nat} (h:e7 w l=some rest):Ret cb rd n Q (.scp w::ks) (.goto l) E df H=Ret cb rd n Q (.again (.b7 w rest)::ks) .normal E df H:=by
 show(match e7 w l with|some rest=>qh cb rd n (.b7 w rest) (Ret cb rd n Q ks) E df H|none=>Ret cb rd n Q ks (.goto l) E df H)=_
 rw[h];rfl
theorem fE {tab:FuncId->Option an} {c:aH} (hf:c.fits n=true) (ho:rd=none∨c.iu=true) (h:Ret (cbL tab) rd n Q (.code c::ks) .normal E df H):Ret (cbL tab) rd n Q (.again c::ks) .normal E df H:=Fg hf ho h
theorem aR {tab:FuncId->Option an} {α:Type} (P:α->Env->List ADf->ab->Prop) (m:α->Nat) (a0:α) {a:aH} (hf:a.fits n=true) (ho:rd=none∨a.iu=true) (h0:P a0 E df H)
   (step:∀x E df H,(∀y E' df' H',m y<m x->P y E' df' H'->Ret (cbL tab) rd n Q (.again (.loop a)::ks) .normal E' df' H')->P x E df H->Ret (cbL tab) rd n Q (.code a:: .again (.loop a)::ks) .normal E df H):
   Ret (cbL tab) rd n Q (.code (.loop a)::ks) .normal E df H:=by
 have key:∀k x E df H,m x<k->P x E df H->Ret (cbL tab) rd n Q (.code (.loop a)::ks) .normal E df H:=by
   intro k
   induction k with
   |zero=>intro x E df H h;omega
   | succ k ih=>
     intro x E df H hx hp;rw[eZ];exact step x E df H (fun y E' df' H' hy hp'=>fE hf ho (ih y E' df' H' (by omega) hp')) hp
 exact key _ a0 E df H (Nat.lt_succ_self _) h0
theorem FY:RR cb rd n Q [] ks E df H=Ret cb rd n Q ks .normal E df H:=(rfl)
def dA (o:Option AV) (d:Option Nat) (rest:List ai) (cb:CB) (rd:Option Nat) (n:Nat) (Q:KP) (ks:List Kt) (E:Env) (df:List ADf) (H:ab):Prop:=
 match o with
 |some v=>RR cb rd n Q rest ks (cH E d v) df H
 |none=>False
theorem tB {v:AV} {d:Option Nat} {rest:List ai}:dA (some v) d rest cb rd n Q ks E df H=RR cb rd n Q rest ks (cH E d v) df H:=(rfl)
def ua (o:Option (Out×ab)) (d:Option Nat) (rest:List ai) (cb:CB) (rd:Option Nat) (n:Nat) (Q:KP) (ks:List Kt) (E:Env) (df:List ADf):Prop:=
 match o with
 |some (.ret v,H')=>RR cb rd n Q rest ks (cH E d v) df H'
 |some (.pan c,H')=>Ret cb rd n Q ks (.panic c) E df H'
 |none=>False
theorem wP {v:AV} {H':ab} {d:Option Nat} {rest:List ai}:ua (some (.ret v,H')) d rest cb rd n Q ks E df=RR cb rd n Q rest ks (cH E d v) df H':=(rfl)
theorem xG {c:List (AV×Bool)} {H':ab} {d:Option Nat} {rest:List ai}:ua (some (.pan c,H')) d rest cb rd n Q ks E df=Ret cb rd n Q ks (.panic c) E df H':=(rfl)
def eI (o:Option (Nx×ab)) (d:Option Nat) (rest:List ai) (cb:CB) (rd:Option Nat) (n:Nat) (Q:KP) (ks:List Kt) (E:Env) (df:List ADf):Prop:=
 match o with
 |some (.val v,H')=>RR cb rd n Q rest ks (cH E d v) df H'
 |some (.skip,H')=>RR cb rd n Q rest ks (cH E d (.tup [])) df H'
 |some (.enter f args,H')=>ua (dL cb f args H') d rest cb rd n Q ks E df
 |some (.dO rw f args,H')=>ua (eE cb rw f args H') d rest cb rd n Q ks E df
 |some (.yield id args,H')=>ua (cb.yl id args H') d rest cb rd n Q ks E df
 |some (.pan v,H')=>Ret cb rd n Q ks (.panic [(v,false)]) E df H'
 |some (.dfr q,H')=>RR cb rd n Q rest ks (cH E d (.tup [])) (q::df) H'
 |_=>False
theorem mc {v:AV} {H':ab} {d:Option Nat} {rest:List ai}:eI (some (.val v,H')) d rest cb rd n Q ks E df=RR cb rd n Q rest ks (cH E d v) df H':=(rfl)
theorem rP {H':ab} {d:Option Nat} {rest:List ai}:eI (some (.skip,H')) d rest cb rd n Q ks E df=RR cb rd n Q rest ks (cH E d (.tup [])) df H':=(rfl)
def y6 (o:Option PR) (f:FuncId) (args:List AV) (H':ab) (d:Option Nat) (rest:List ai) (cb:CB) (rd:Option Nat) (n:Nat) (Q:KP) (ks:List Kt) (E:Env) (df:List ADf):Prop:=
 ua (match o with
   |some (.plain v)=>some (.ret v,H')
   |some (.fresh sz n cs)=>some (.ret (.sl sz n cs (.own H'.length)),H'++[.tok sz])
   |some (.ir es)=>some (.ret (.mp H'.length),H'++[.map es])
   |some (.pan c)=>some (.pan c,H')
   |some (.iw _)=>none
   |none=>if cb.cy f then none else cb.ic f args H') d rest cb rd n Q ks E df
theorem qG {f:FuncId} {args:List AV} {H':ab} {d:Option Nat} {rest:List ai}:eI (some (.enter f args,H')) d rest cb rd n Q ks E df=y6 (pcx cb f args H') f args H' d rest cb rd n Q ks E df:=(rfl)
theorem oI {v:AV} {f:FuncId} {args:List AV} {H':ab} {d:Option Nat} {rest:List ai}:y6 (some (.plain v)) f args H' d rest cb rd n Q ks E df=RR cb rd n Q rest ks (cH E d v) df H':=(rfl)
theorem oZ {sz n':Nat} {cs:List AV} {f:FuncId} {args:List AV} {H':ab} {d:Option Nat} {rest:List ai}:y6 (some (.fresh sz n' cs)) f args H' d rest cb rd n Q ks E df=RR cb rd n Q rest ks (cH E d (.sl sz n' cs (.own H'.length))) df (H'++[.tok sz]):=(rfl)
theorem sd {es:List (AV×AV)} {f:FuncId} {args:List AV} {H':ab} {d:Option Nat} {rest:List ai}:y6 (some (.ir es)) f args H' d rest cb rd n Q ks E df=RR cb rd n Q rest ks (cH E d (.mp H'.length)) df (H'++[.map es]):=(rfl)
theorem wD {c:List (AV×Bool)} {f:FuncId} {args:List AV} {H':ab} {d:Option Nat} {rest:List ai}:y6 (some (.pan c)) f args H' d rest cb rd n Q ks E df=Ret cb rd n Q ks (.panic c) E df H':=(rfl)
theorem aO {f:FuncId} {args:List AV} {H':ab} {d:Option Nat} {rest:List ai} (hl:cb.cy f=false):y6 none f args H' d rest cb rd n Q ks E df=ua (cb.ic f args H') d rest cb rd n Q ks E df:=by
 simp only[y6,hl,Bool.false_eq_true,if_false]
theorem nH {rw:Bool} {f:FuncId} {args:List AV} {H':ab} {d:Option Nat} {rest:List ai}:eI (some (.dO rw f args,H')) d rest cb rd n Q ks E df=ua (eE cb rw f args H') d rest cb rd n Q ks E df:=(rfl)
theorem qd {id:Nat} {args:List AV} {H':ab} {d:Option Nat} {rest:List ai}:eI (some (.yield id args,H')) d rest cb rd n Q ks E df=ua (cb.yl id args H') d rest cb rd n Q ks E df:=(rfl)
theorem yg {v:AV} {H':ab} {d:Option Nat} {rest:List ai}:eI (some (.pan v,H')) d rest cb rd n Q ks E df=Ret cb rd n Q ks (.panic [(v,false)]) E df H':=(rfl)
theorem xy {q:ADf} {H':ab} {d:Option Nat} {rest:List ai}:eI (some (.dfr q,H')) d rest cb rd n Q ks E df=RR cb rd n Q rest ks (cH E d (.tup [])) (q::df) H':=(rfl)
def AOp.pure:AOp->Bool
 | .mv _=>true
 | .pick _ _ _=>true
 | .build _ _=>true
 | .aX _ _ _ _=>true
 | .g8 _ _ _ _=>true
 | .mm _ _ _=>true
 | .load _ _ _=>true
 | .fld _ _=>true
 | .part _ _ _ _=>true
 | .ixa _ _ _=>true
 | .bn _ _ _ _=>true
 | .ixv _ _ _ _ _=>true
 | .ixs _ _=>true
 | .bin _ _ _ _=>true
 | .un _ _=>true
 | .conv _ _=>true
 | .nu _ _=>true
 | .fO _ _=>true
 | .chk _ _=>true
 | .p7 _=>true
 | .vd _ _ _ _=>true
 | .lookup _ _ _ _ _=>true
 | .eV _ _ _ _=>true
 | .ext _ _=>true
 | .slice _ _ _ _=>true
 | .fm _ _ _=>true
 | .oq _ _ _ _ _=>true
 | .len _ _=>true
 | .bf _=>true
 | .alloc _=>false
 | .box _=>false
 | .store _ _ _=>false
 | .iU=>false
 | .hO _ _ _ _=>false
 | .append _ _ _ _=>false
 | .iK _ _ _ _=>false
 | .eY _ _ _ _=>false
 | .br _ _=>false
 | .jt _ _ _=>false
 | .cf _ _=>false
 | .fy=>false
 | .panic _=>false
 | .dfr _ _=>false
 | .fM _ _ _ _ _=>true
 | .iT _ _=>true
 | .rh _ _=>true
 | .tZ _ _=>true
 | .og _ _ _ _=>false
 | .iA _ _ _ _ _=>false
 | .clr _ _ _=>false
 | .cpy _ _ _=>false
 | .lP _ _=>false
 | .rb _=>false
 | .kj _ _ _ _ _=>true
 | .mf _ _=>true
 | .dp _ _ _ _ _=>false
 | .oc _ _ _ _=>false
 | .ue _ _ _ _ _=>false
theorem pj {K:KP} {d:Option Nat} {op:AOp} {rest:List ai}:wpr cb K (⟨d,op,none⟩::rest) E df H=
   match aw op E H with
     |some v=>wpr cb K rest (cH E d v) df H
     | none=>
       match a8 op E H with
       |some (.val v,H')=>wpr cb K rest (cH E d v) df H'
       |some (.skip,H')=>wpr cb K rest (cH E d (.tup [])) df H'
       | some (.enter f args,H')=>
         match dL cb f args H' with
         |some (.ret v,H'')=>wpr cb K rest (cH E d v) df H''
         |some (.pan c,H'')=>K (.panic c) E df H''
         |none=>False
       | some (.dO rw f args,H')=>
         match eE cb rw f args H' with
         |some (.ret v,H'')=>wpr cb K rest (cH E d v) df H''
         |some (.pan c,H'')=>K (.panic c) E df H''
         |none=>False
       | some (.yield id args,H')=>
         match cb.yl id args H' with
         |some (.ret v,H'')=>wpr cb K rest (cH E d v) df H''
         |some (.pan c,H'')=>K (.panic c) E df H''
         |none=>False
       |some (.pan v,H')=>K (.panic [(v,false)]) E df H'
       |some (.dfr q,H')=>wpr cb K rest (cH E d (.tup [])) (q::df) H'
       |_=>False:=by
 rw[wpr];simp only[cQ,if_true]
theorem bh {d:Option Nat} {op:AOp} {rest:List ai} (h:op.pure=true):RR cb rd n Q (⟨d,op,none⟩::rest) ks E df H=dA (aw op E H) d rest cb rd n Q ks E df H:=by
 show wpr cb _ _ E df H=_
 rw[pj]
 cases hv:aw op E H with
 |some v=>rfl
 |none=>cases op<;>first|rfl|(cases h;done)|(cases hl;done)
theorem dj {d:Option Nat} {op:AOp} {rest:List ai} (h:op.pure=false):RR cb rd n Q (⟨d,op,none⟩::rest) ks E df H=eI (a8 op E H) d rest cb rd n Q ks E df:=by
 show wpr cb _ _ E df H=_
 rw[pj]
 have hv:aw op E H=none:=by cases op<;>first|rfl|cases h
 rw[hv];simp only
 cases hx:a8 op E H with
 |none=>rfl
 | some q=>
   obtain⟨q,H'⟩:=q
   cases q with
   | enter f args=>
     simp only[eI]
     cases hy:dL cb f args H' with
     |none=>rfl
     |some r=>obtain⟨r,H''⟩:=r;cases r<;>rfl
   | dO rw f args=>
     simp only[eI]
     cases hy:eE cb rw f args H' with
     |none=>rfl
     |some r=>obtain⟨r,H''⟩:=r;cases r<;>rfl
   | yield f args=>
     simp only[eI]
     cases hy:cb.yl f args H' with
     |none=>rfl
     |some r=>obtain⟨r,H''⟩:=r;cases r<;>rfl
   |_=>rfl
theorem Kn {x:X} {d:Option Nat} {rest:List ai}:RR cb rd n Q (⟨d,.mv x,none⟩::rest) ks E df H=dA (aw (.mv x) E H) d rest cb rd n Q ks E df H:=bh rfl
theorem AM {c:X} {a:X} {b:X} {d:Option Nat} {rest:List ai}:RR cb rd n Q (⟨d,.pick c a b,none⟩::rest) ks E df H=dA (aw (.pick c a b) E H) d rest cb rd n Q ks E df H:=bh rfl
theorem vh {zs:List AV} {ps:List (Nat×Nat×X)} {d:Option Nat} {rest:List ai}:RR cb rd n Q (⟨d,.build zs ps,none⟩::rest) ks E df H=dA (aw (.build zs ps) E H) d rest cb rd n Q ks E df H:=bh rfl
theorem sU {sz:Nat} {len:Nat} {zs:List AV} {ps:List (Nat×Nat×X)} {d:Option Nat} {rest:List ai}:RR cb rd n Q (⟨d,.g8 sz len zs ps,none⟩::rest) ks E df H=dA (aw (.g8 sz len zs ps) E H) d rest cb rd n Q ks E df H:=bh rfl
theorem KR {mx:Bool} {x:X} {y:X} {d:Option Nat} {rest:List ai}:RR cb rd n Q (⟨d,.mm mx x y,none⟩::rest) ks E df H=dA (aw (.mm mx x y) E H) d rest cb rd n Q ks E df H:=bh rfl
theorem sE {sz:Nat} {len:Nat} {zs:List AV} {ps:List (Nat×Nat×X)} {d:Option Nat} {rest:List ai}:RR cb rd n Q (⟨d,.aX sz len zs ps,none⟩::rest) ks E df H=dA (aw (.aX sz len zs ps) E H) d rest cb rd n Q ks E df H:=bh rfl
theorem zB {sz:Nat} {ag:Bool} {x:X} {d:Option Nat} {rest:List ai}:RR cb rd n Q (⟨d,.load sz ag x,none⟩::rest) ks E df H=dA (aw (.load sz ag x) E H) d rest cb rd n Q ks E df H:=bh rfl
theorem G9 {off:Nat} {x:X} {d:Option Nat} {rest:List ai}:RR cb rd n Q (⟨d,.fld off x,none⟩::rest) ks E df H=dA (aw (.fld off x) E H) d rest cb rd n Q ks E df H:=bh rfl
theorem A7 {off:Nat} {sz:Nat} {ag:Bool} {x:X} {d:Option Nat} {rest:List ai}:RR cb rd n Q (⟨d,.part off sz ag x,none⟩::rest) ks E df H=dA (aw (.part off sz ag x) E H) d rest cb rd n Q ks E df H:=bh rfl
theorem EN {sz:Nat} {x:X} {i:X} {d:Option Nat} {rest:List ai}:RR cb rd n Q (⟨d,.ixa sz x i,none⟩::rest) ks E df H=dA (aw (.ixa sz x i) E H) d rest cb rd n Q ks E df H:=bh rfl
theorem xg {n0:Nat} {sz:Nat} {x:X} {i:X} {d:Option Nat} {rest:List ai}:RR cb rd n Q (⟨d,.bn n0 sz x i,none⟩::rest) ks E df H=dA (aw (.bn n0 sz x i) E H) d rest cb rd n Q ks E df H:=bh rfl
theorem C7 {n0:Nat} {sz:Nat} {ag:Bool} {x:X} {i:X} {d:Option Nat} {rest:List ai}:RR cb rd n Q (⟨d,.ixv n0 sz ag x i,none⟩::rest) ks E df H=dA (aw (.ixv n0 sz ag x i) E H) d rest cb rd n Q ks E df H:=bh rfl
theorem Ef {x:X} {i:X} {d:Option Nat} {rest:List ai}:RR cb rd n Q (⟨d,.ixs x i,none⟩::rest) ks E df H=dA (aw (.ixs x i) E H) d rest cb rd n Q ks E df H:=bh rfl
theorem GQ {op:BinOp} {ek:EqK} {x:X} {y:X} {d:Option Nat} {rest:List ai}:RR cb rd n Q (⟨d,.bin op ek x y,none⟩::rest) ks E df H=dA (aw (.bin op ek x y) E H) d rest cb rd n Q ks E df H:=bh rfl
theorem KI {uop:UnOp} {x:X} {d:Option Nat} {rest:List ai}:RR cb rd n Q (⟨d,.un uop x,none⟩::rest) ks E df H=dA (aw (.un uop x) E H) d rest cb rd n Q ks E df H:=bh rfl
theorem z7 {cv:CvK} {x:X} {d:Option Nat} {rest:List ai}:RR cb rd n Q (⟨d,.conv cv x,none⟩::rest) ks E df H=dA (aw (.conv cv x) E H) d rest cb rd n Q ks E df H:=bh rfl
theorem zT {ty:TypeId} {x:X} {d:Option Nat} {rest:List ai}:RR cb rd n Q (⟨d,.nu ty x,none⟩::rest) ks E df H=dA (aw (.nu ty x) E H) d rest cb rd n Q ks E df H:=bh rfl
theorem Aj {f:FuncId} {xs:List X} {d:Option Nat} {rest:List ai}:RR cb rd n Q (⟨d,.fO f xs,none⟩::rest) ks E df H=dA (aw (.fO f xs) E H) d rest cb rd n Q ks E df H:=bh rfl
theorem s7 {kk:Nat} {zero:AV} {x:X} {i:X} {ok:Bool} {d:Option Nat} {rest:List ai}:RR cb rd n Q (⟨d,.lookup kk zero x i ok,none⟩::rest) ks E df H=dA (aw (.lookup kk zero x i ok) E H) d rest cb rd n Q ks E df H:=bh rfl
theorem pV {ty:TypeId} {zero:AV} {x:X} {ok:Bool} {d:Option Nat} {rest:List ai}:RR cb rd n Q (⟨d,.eV ty zero x ok,none⟩::rest) ks E df H=dA (aw (.eV ty zero x ok) E H) d rest cb rd n Q ks E df H:=bh rfl
theorem ES {x:X} {j:Nat} {d:Option Nat} {rest:List ai}:RR cb rd n Q (⟨d,.ext x j,none⟩::rest) ks E df H=dA (aw (.ext x j) E H) d rest cb rd n Q ks E df H:=bh rfl
theorem v8 {sz:Nat} {x:X} {lo:Option X} {hi:Option X} {d:Option Nat} {rest:List ai}:RR cb rd n Q (⟨d,.slice sz x lo hi,none⟩::rest) ks E df H=dA (aw (.slice sz x lo hi) E H) d rest cb rd n Q ks E df H:=bh rfl
theorem zW {sz:Nat} {x:X} {lo:Option X} {hi:Option X} {mx:Option X} {d:Option Nat} {rest:List ai}:RR cb rd n Q (⟨d,.oq sz x lo hi mx,none⟩::rest) ks E df H=dA (aw (.oq sz x lo hi mx) E H) d rest cb rd n Q ks E df H:=bh rfl
theorem wE {x:X} {lo:Option X} {hi:Option X} {d:Option Nat} {rest:List ai}:RR cb rd n Q (⟨d,.fm x lo hi,none⟩::rest) ks E df H=dA (aw (.fm x lo hi) E H) d rest cb rd n Q ks E df H:=bh rfl
theorem FZ {k:Nat} {x:X} {d:Option Nat} {rest:List ai}:RR cb rd n Q (⟨d,.len k x,none⟩::rest) ks E df H=dA (aw (.len k x) E H) d rest cb rd n Q ks E df H:=bh rfl
theorem xt {x:X} {d:Option Nat} {rest:List ai}:RR cb rd n Q (⟨d,.bf x,none⟩::rest) ks E df H=dA (aw (.bf x) E H) d rest cb rd n Q ks E df H:=bh rfl
theorem vL {zs:List AV} {d:Option Nat} {rest:List ai}:RR cb rd n Q (⟨d,.alloc zs,none⟩::rest) ks E df H=eI (a8 (.alloc zs) E H) d rest cb rd n Q ks E df:=dj rfl
theorem Fh {x:X} {d:Option Nat} {rest:List ai}:RR cb rd n Q (⟨d,.box x,none⟩::rest) ks E df H=eI (a8 (.box x) E H) d rest cb rd n Q ks E df:=dj rfl
theorem vw {sz:Nat} {a:X} {v:X} {d:Option Nat} {rest:List ai}:RR cb rd n Q (⟨d,.store sz a v,none⟩::rest) ks E df H=eI (a8 (.store sz a v) E H) d rest cb rd n Q ks E df:=dj rfl
theorem xm {d:Option Nat} {rest:List ai}:RR cb rd n Q (⟨d,.iU,none⟩::rest) ks E df H=eI (a8 (.iU) E H) d rest cb rd n Q ks E df:=dj rfl
theorem vA {kk:Nat} {x:X} {k:X} {v:X} {d:Option Nat} {rest:List ai}:RR cb rd n Q (⟨d,.hO kk x k v,none⟩::rest) ks E df H=eI (a8 (.hO kk x k v) E H) d rest cb rd n Q ks E df:=dj rfl
theorem vY {sz m:Nat} {cs:List AV} {tk:Tk}:rowOf H (.sl sz m cs tk)= .sl sz m cs tk:=rfl
theorem Bs {sz id off m:Nat} {cs:List AV} (hg:H[id]? =some (.cells cs)) (h:off+m*sz<=cs.length) (h0:m≠0):rowOf H (.msl sz id off m)= .sl sz m ((cs.drop off).take (m*sz)) .ro:=by simp only[rowOf,hg,if_pos (And.intro h h0)]
theorem sD {sz:Nat} {bytes:Nat} {x:X} {y:X} {d:Option Nat} {rest:List ai}:RR cb rd n Q (⟨d,.append sz bytes x y,none⟩::rest) ks E df H=eI (eW sz bytes (x.evE E) (rowOf H (y.evE E)) H) d rest cb rd n Q ks E df:=dj rfl
def AN (sz bytes:Nat) (zs:List AV) (x n:AV) (H:ab):Option (Nx×ab):=
 match x,eo sz bytes zs n n with
 | .sl sz' k cs (.own g),some m=>eW sz bytes (.sl sz' k cs (.own g)) (.sl sz m (bX m zs) .ro) H
 | .rsl sz' id k,some m=>kA sz bytes (.rsl sz' id k) (.sl sz m (bX m zs) .ro) H
 |_,_=>none
theorem oG {sz:Nat} {bytes:Nat} {x:X} {y:X} {d:Option Nat} {rest:List ai}:RR cb rd n Q (⟨d,.eY sz bytes x y,none⟩::rest) ks E df H=eI (kA sz bytes (x.evE E) (y.evE E) H) d rest cb rd n Q ks E df:=dj rfl
theorem AO {sz:Nat} {bytes:Nat} {zs:List AV} {x:X} {y:X} {d:Option Nat} {rest:List ai}:RR cb rd n Q (⟨d,.ue sz bytes zs x y,none⟩::rest) ks E df H=eI (AN sz bytes zs (x.evE E) (y.evE E) H) d rest cb rd n Q ks E df:=dj rfl
theorem u6 {sz len:Nat} {zs:List AV} {ps:List (Nat×Nat×X)} {d:Option Nat} {rest:List ai}:RR cb rd n Q (⟨d,.oc sz len zs ps,none⟩::rest) ks E df H=eI (a8 (.oc sz len zs ps) E H) d rest cb rd n Q ks E df:=dj rfl
theorem nB {sz:Nat} {bytes:Nat} {zs:List AV} {x:X} {y:X} {d:Option Nat} {rest:List ai}:RR cb rd n Q (⟨d,.dp sz bytes zs x y,none⟩::rest) ks E df H=eI (a8 (.dp sz bytes zs x y) E H) d rest cb rd n Q ks E df:=dj rfl
theorem pM {sz:Nat} {bytes:Nat} {zs:List AV} {x:X} {y:X} {d:Option Nat} {rest:List ai}:RR cb rd n Q (⟨d,.fM sz bytes zs x y,none⟩::rest) ks E df H=dA (aw (.fM sz bytes zs x y) E H) d rest cb rd n Q ks E df H:=bh rfl
theorem AW {sz bytes:Nat} {x y:X} {d:Option Nat} {rest:List ai}:RR cb rd n Q (⟨d,.vd sz bytes x y,none⟩::rest) ks E df H=dA (aw (.vd sz bytes x y) E H) d rest cb rd n Q ks E df H:=bh rfl
theorem Bj {x:X} {d:Option Nat} {rest:List ai}:RR cb rd n Q (⟨d,.p7 x,none⟩::rest) ks E df H=dA (aw (.p7 x) E H) d rest cb rd n Q ks E df H:=bh rfl
theorem G8 {lx sx:List X} {d:Option Nat} {rest:List ai}:RR cb rd n Q (⟨d,.chk lx sx,none⟩::rest) ks E df H=dA (aw (.chk lx sx) E H) d rest cb rd n Q ks E df H:=bh rfl
theorem vq {id:Nat}:jR id []=true:=rfl
theorem xr {id id' o:Nat} {r:List AV} (h:id'≠id):jR id (.ptr id' o::r)=jR id r:=by simp[jR,h]
theorem pY {ss:List AV}:ck [] ss=true:=by cases ss<;>rfl
theorem yc {cs r ss:List AV}:ck (.bU cs::r) ss=ck r ss:=by cases ss<;>rfl
theorem vT {id o:Nat} {r ss:List AV} (h:jR id ss=true):ck (.ptr id o::r) ss=ck r ss:=by cases ss<;>simp[ck,h]
theorem wV {f:FuncId} {xs:List X} {d:Option Nat} {rest:List ai}:RR cb rd n Q (⟨d,.iT f xs,none⟩::rest) ks E df H=dA (aw (.iT f xs) E H) d rest cb rd n Q ks E df H:=bh rfl
theorem xW {n0 sz:Nat} {x:X} {lo hi:Option X} {d:Option Nat} {rest:List ai}:RR cb rd n Q (⟨d,.kj n0 sz x lo hi,none⟩::rest) ks E df H=dA (aw (.kj n0 sz x lo hi) E H) d rest cb rd n Q ks E df H:=bh rfl
theorem wO {n0:Nat} {x:X} {d:Option Nat} {rest:List ai}:RR cb rd n Q (⟨d,.mf n0 x,none⟩::rest) ks E df H=dA (aw (.mf n0 x) E H) d rest cb rd n Q ks E df H:=bh rfl
theorem Dj {sz:Nat} {zs:List AV} {x:X} {d:Option Nat} {rest:List ai}:RR cb rd n Q (⟨d,.clr sz zs x,none⟩::rest) ks E df H=eI (a8 (.clr sz zs x) E H) d rest cb rd n Q ks E df:=dj rfl
theorem Ek {sz:Nat} {x y:X} {d:Option Nat} {rest:List ai}:RR cb rd n Q (⟨d,.cpy sz x y,none⟩::rest) ks E df H=eI (a8 (.cpy sz x y) E H) d rest cb rd n Q ks E df:=dj rfl
theorem Ap {x y:X} {d:Option Nat} {rest:List ai}:RR cb rd n Q (⟨d,.tZ x y,none⟩::rest) ks E df H=dA (aw (.tZ x y) E H) d rest cb rd n Q ks E df H:=bh rfl
theorem AQ {x y:X} {d:Option Nat} {rest:List ai}:RR cb rd n Q (⟨d,.rh x y,none⟩::rest) ks E df H=dA (aw (.rh x y) E H) d rest cb rd n Q ks E df H:=bh rfl
theorem oV {sz:Nat} {bytes:Nat} {x:X} {y:X} {d:Option Nat} {rest:List ai}:RR cb rd n Q (⟨d,.iK sz bytes x y,none⟩::rest) ks E df H=eI (a8 (.iK sz bytes x y) E H) d rest cb rd n Q ks E df:=dj rfl
theorem vc {f:FuncId} {xs:List X} {d:Option Nat} {rest:List ai}:RR cb rd n Q (⟨d,.br f xs,none⟩::rest) ks E df H=eI (a8 (.br f xs) E H) d rest cb rd n Q ks E df:=dj rfl
theorem vO {rw:Bool} {f:FuncId} {xs:List X} {d:Option Nat} {rest:List ai}:RR cb rd n Q (⟨d,.jt rw f xs,none⟩::rest) ks E df H=eI (a8 (.jt rw f xs) E H) d rest cb rd n Q ks E df:=dj rfl
theorem xl {x:X} {xs:List X} {d:Option Nat} {rest:List ai}:RR cb rd n Q (⟨d,.cf x xs,none⟩::rest) ks E df H=eI (a8 (.cf x xs) E H) d rest cb rd n Q ks E df:=dj rfl
theorem xF {d:Option Nat} {rest:List ai}:RR cb rd n Q (⟨d,.fy,none⟩::rest) ks E df H=eI (a8 (.fy) E H) d rest cb rd n Q ks E df:=dj rfl
theorem wA {x:X} {d:Option Nat} {rest:List ai}:RR cb rd n Q (⟨d,.panic x,none⟩::rest) ks E df H=eI (a8 (.panic x) E H) d rest cb rd n Q ks E df:=dj rfl
theorem FV {x:X} {xs:List X} {d:Option Nat} {rest:List ai}:RR cb rd n Q (⟨d,.dfr x xs,none⟩::rest) ks E df H=eI (a8 (.dfr x xs) E H) d rest cb rd n Q ks E df:=dj rfl
def qQ (v:AV) (b:Bool) (d:Option Nat) (op:AOp) (rest:List ai) (cb:CB) (rd:Option Nat) (n:Nat) (Q:KP) (ks:List Kt) (E:Env) (df:List ADf) (H:ab):Prop:=
 match v with
 | .bool b'=>if b'=b then RR cb rd n Q (⟨d,op,none⟩::rest) ks E df H else RR cb rd n Q rest ks (cH E d (.tup [])) df H
 |_=>RR cb rd n Q rest ks (cH E d (.tup [])) df H
theorem x8 {t:Nat} {b:Bool} {d:Option Nat} {op:AOp} {rest:List ai}:RR cb rd n Q (⟨d,op,some (t,b)⟩::rest) ks E df H=qQ (E t) b d op rest cb rd n Q ks E df H:=by
 show wpr cb _ _ E df H=_
 cases ht:E t with
 | bool b'=>
   by_cases hb:b'=b
   . show _=(if b'=b then RR cb rd n Q (⟨d,op,none⟩::rest) ks E df H else _)
     rw[if_pos hb];show _=wpr cb _ _ E df H
     rw[wpr,pj];simp only[cQ,ht,hb,beq_self_eq_true,if_true]
   . show _=(if b'=b then _ else RR cb rd n Q rest ks (cH E d (.tup [])) df H)
     rw[if_neg hb,wpr];simp only[cQ,ht,beq_eq_false_iff_ne.2 hb,Bool.false_eq_true,if_false];rfl
 | _=>
   rw[wpr];simp only[cQ,ht,Bool.false_eq_true,if_false];rfl
theorem Bf {d:Option Nat} {op:AOp} {rest:List ai}:qQ (.bool true) true d op rest cb rd n Q ks E df H=RR cb rd n Q (⟨d,op,none⟩::rest) ks E df H:=(rfl)
theorem Be {d:Option Nat} {op:AOp} {rest:List ai}:qQ (.bool false) false d op rest cb rd n Q ks E df H=RR cb rd n Q (⟨d,op,none⟩::rest) ks E df H:=(rfl)
theorem zN {d:Option Nat} {op:AOp} {rest:List ai}:qQ (.bool true) false d op rest cb rd n Q ks E df H=RR cb rd n Q rest ks (cH E d (.tup [])) df H:=(rfl)
theorem Bk {d:Option Nat} {op:AOp} {rest:List ai}:qQ (.bool false) true d op rest cb rd n Q ks E df H=RR cb rd n Q rest ks (cH E d (.tup [])) df H:=(rfl)
section
variable {p:Prop} [Decidable p]
theorem w6 {d:Option Nat} {op:AOp} {rest:List ai} (h:p):qQ (.bool (decide p)) true d op rest cb rd n Q ks E df H=RR cb rd n Q (⟨d,op,none⟩::rest) ks E df H:=by rw[decide_eq_true h];rfl
theorem xZ {d:Option Nat} {op:AOp} {rest:List ai} (h:¬p):qQ (.bool (decide p)) false d op rest cb rd n Q ks E df H=RR cb rd n Q (⟨d,op,none⟩::rest) ks E df H:=by rw[decide_eq_false h];rfl
theorem u9 {d:Option Nat} {op:AOp} {rest:List ai} (h:p):qQ (.bool (decide p)) false d op rest cb rd n Q ks E df H=RR cb rd n Q rest ks (cH E d (.tup [])) df H:=by rw[decide_eq_true h];rfl
theorem xd {d:Option Nat} {op:AOp} {rest:List ai} (h:¬p):qQ (.bool (decide p)) true d op rest cb rd n Q ks E df H=RR cb rd n Q rest ks (cH E d (.tup [])) df H:=by rw[decide_eq_false h];rfl
end
def RP (cb:CB) (rd:Option Nat) (n:Nat) (Q:KP) (pre tail:List ai) (e:List av) (ks:List Kt) (E:Env) (df:List ADf) (H:ab):Prop:=
 zg cb H (fun E' e=>wpr cb (Ret cb rd n Q ks) tail E' df (H++e)) pre E e
theorem rZ {pre tail:List ai}:Ret cb rd n Q (.code (.drawn pre tail)::ks) .normal E df H=RP cb rd n Q pre tail [] ks E df H:=(rfl)
theorem sy (H:ab):oO H []=H:=List.append_nil H
theorem qK (H:ab) (g:av) (e:List av):oO H (g::e)=H++(g::e):=(rfl)
theorem EI {tail:List ai} {e:List av}:RP cb rd n Q [] tail e ks E df H=RR cb rd n Q tail ks E df (oO H e):=(rfl)
def zV (o:Option (AV×Option av)) (q:Option Nat) (d:Option Nat) (rest tail:List ai) (e:List av) (cb:CB) (rd:Option Nat) (n:Nat) (Q:KP) (ks:List Kt) (E:Env) (df:List ADf) (H:ab):Prop:=
 match o with
 |some (v,k)=>RP cb rd n Q rest tail (kx H.length q (e++k.toList)) ks (cH E d v) df H
 |none=>False
theorem Az {o:ai} {rest tail:List ai} {e:List av}:RP cb rd n Q (o::rest) tail e ks E df H=zV (cd cb H (oO H e) o E (H.length+e.length)) (p9 o E) o.dst rest tail e cb rd n Q ks E df H:=by
 show zg cb H _ (o::rest) E e=_
 rw[zg]
 cases cd cb H (oO H e) o E (H.length+e.length)with
 |none=>rfl
 |some q=>rfl
theorem u4 {d:Option Nat} {op:AOp} {g:Option (Nat×Bool)}:p9 ⟨d,op,g⟩ E=(match op with
 | .iA _ _ _ x _=>if cQ E g then(match x.evE E with
   | .sl _ _ _ (.own g0)=>some g0
   |_=>none)else none
 |_=>none):=(rfl)
theorem nS {v:AV} {d:Option Nat} {rest tail:List ai} {e:List av}:zV (some (v,none)) none d rest tail e cb rd n Q ks E df H=RP cb rd n Q rest tail e ks (cH E d v) df H:=by
 show RP cb rd n Q rest tail (e++[]) ks _ df H=_
 rw[List.append_nil]
theorem nJ {v:AV} {k:av} {d:Option Nat} {rest tail:List ai} {e:List av}:zV (some (v,some k)) none d rest tail e cb rd n Q ks E df H=RP cb rd n Q rest tail (e++[k]) ks (cH E d v) df H:=(rfl)
theorem o9 {v:AV} {k:av} {g0:Nat} {d:Option Nat} {rest tail:List ai} {e:List av}:zV (some (v,some k)) (some g0) d rest tail e cb rd n Q ks E df H=RP cb rd n Q rest tail ((e++[k]).set (g0-H.length) .dead) ks (cH E d v) df H:=(rfl)
def prW (o:Option PR) (g:Nat):Option (AV×Option av):=
 match o with
 |some (.fresh sz n cs)=>if cs.all (·.iZ)&&cs.length==n*sz then some (.msl sz g 0 n,some (.cells cs))else none
 |_=>none
theorem vC {G:ab} {f:FuncId} {args:List X} {d:Option Nat} {g:Nat}:cd cb H G ⟨d,.lP f args,none⟩ E g=prW (pcx cb f (args.map (·.evE E)) H) g:=(rfl)
theorem A8 {G:ab} {x:X} {d:Option Nat} {g:Nat}:cd cb H G ⟨d,.rb x,none⟩ E g=if aA (x.evE E).flat then some (.ptr g 0,some (.cells (x.evE E).flat))else none:=(rfl)
theorem A6 {G:ab} {sz bytes:Nat} {x y:X} {d:Option Nat} {g:Nat}:cd cb H G ⟨d,.og sz bytes x y,none⟩ E g=kR sz bytes (x.evE E) (y.evE E) g:=(rfl)
theorem zX {G:ab} {sz bytes:Nat} {zs:List AV} {x y:X} {d:Option Nat} {g:Nat}:cd cb H G ⟨d,.iA sz bytes zs x y,none⟩ E g=ry H.length sz bytes zs (x.evE E) (y.evE E) G g:=(rfl)
theorem uB:cQ E none=true:=(rfl)
def b9 (o:Option AV):Option (AV×Option av):=
 match o with
 |some v=>some (v,none)
 |none=>none
theorem pA {v:AV}:b9 (some v)=some (v,none):=(rfl)
def prP (o:Option PR) (g:Nat):Option (AV×Option av):=
 match o with
 |some (.plain v)=>some (v,none)
 |some (.fresh sz n cs)=>some (.sl sz n cs (.own g),some (.tok sz))
 |some (.ir es)=>some (.mp g,some (.map es))
 |_=>none
theorem x7 {es:List (AV×AV)} {g:Nat}:prP (some (.ir es)) g=some (.mp g,some (.map es)):=(rfl)
theorem si {v:AV} {g:Nat}:prP (some (.plain v)) g=some (v,none):=(rfl)
theorem tu {sz n g:Nat} {cs:List AV}:prP (some (.fresh sz n cs)) g=some (.sl sz n cs (.own g),some (.tok sz)):=(rfl)
def AOp.LK:AOp->Bool
 | .lookup .. =>false
 |_=>true
def C1 (o q:Option AV):Option (AV×Option av):=
 match o with
 |some v=>some (v,none)
 |none=>b9 q
theorem pC {v:AV} {q:Option AV}:C1 (some v) q=some (v,none):=(rfl)
theorem pJ {q:Option AV}:C1 none q=b9 q:=(rfl)
theorem aQ {G:ab} {d:Option Nat} {op:AOp} {g:Nat} (h:op.pure=true) (hl:op.LK=true:=by rfl):cd cb H G ⟨d,op,none⟩ E g=b9 (aw op E H):=by
 simp only[cd,cQ,if_true]
 cases hv:aw op E H with
 |some v=>rfl
 |none=>cases op<;>first|rfl|(cases h;done)|(cases hl;done)
theorem KF {G:ab} {x:X} {d:Option Nat} {g:Nat}:cd cb H G ⟨d,.mv x,none⟩ E g=b9 (aw (.mv x) E H):=aQ rfl
theorem zG {G:ab} {c:X} {a:X} {b:X} {d:Option Nat} {g:Nat}:cd cb H G ⟨d,.pick c a b,none⟩ E g=b9 (aw (.pick c a b) E H):=aQ rfl
theorem xL {G:ab} {zs:List AV} {ps:List (Nat×Nat×X)} {d:Option Nat} {g:Nat}:cd cb H G ⟨d,.build zs ps,none⟩ E g=b9 (aw (.build zs ps) E H):=aQ rfl
theorem rK {G:ab} {sz:Nat} {len:Nat} {zs:List AV} {ps:List (Nat×Nat×X)} {d:Option Nat} {g:Nat}:cd cb H G ⟨d,.g8 sz len zs ps,none⟩ E g=b9 (aw (.g8 sz len zs ps) E H):=aQ rfl
theorem KS {G:ab} {mx:Bool} {x:X} {y:X} {d:Option Nat} {g:Nat}:cd cb H G ⟨d,.mm mx x y,none⟩ E g=b9 (aw (.mm mx x y) E H):=aQ rfl
theorem tg {G:ab} {sz:Nat} {len:Nat} {zs:List AV} {ps:List (Nat×Nat×X)} {d:Option Nat} {g:Nat}:cd cb H G ⟨d,.aX sz len zs ps,none⟩ E g=b9 (aw (.aX sz len zs ps) E H):=aQ rfl
theorem zF {G:ab} {sz:Nat} {ag:Bool} {x:X} {d:Option Nat} {g:Nat}:cd cb H G ⟨d,.load sz ag x,none⟩ E g=b9 (aw (.load sz ag x) E H):=aQ rfl
theorem FN {G:ab} {off:Nat} {x:X} {d:Option Nat} {g:Nat}:cd cb H G ⟨d,.fld off x,none⟩ E g=b9 (aw (.fld off x) E H):=aQ rfl
theorem AD {G:ab} {off:Nat} {sz:Nat} {ag:Bool} {x:X} {d:Option Nat} {g:Nat}:cd cb H G ⟨d,.part off sz ag x,none⟩ E g=b9 (aw (.part off sz ag x) E H):=aQ rfl
theorem Fj {G:ab} {sz:Nat} {x:X} {i:X} {d:Option Nat} {g:Nat}:cd cb H G ⟨d,.ixa sz x i,none⟩ E g=b9 (aw (.ixa sz x i) E H):=aQ rfl
theorem vN {G:ab} {n0:Nat} {sz:Nat} {x:X} {i:X} {d:Option Nat} {g:Nat}:cd cb H G ⟨d,.bn n0 sz x i,none⟩ E g=b9 (aw (.bn n0 sz x i) E H):=aQ rfl
theorem GA {G:ab} {n0:Nat} {sz:Nat} {ag:Bool} {x:X} {i:X} {d:Option Nat} {g:Nat}:cd cb H G ⟨d,.ixv n0 sz ag x i,none⟩ E g=b9 (aw (.ixv n0 sz ag x i) E H):=aQ rfl
theorem DW {G:ab} {x:X} {i:X} {d:Option Nat} {g:Nat}:cd cb H G ⟨d,.ixs x i,none⟩ E g=b9 (aw (.ixs x i) E H):=aQ rfl
theorem ET {G:ab} {op:BinOp} {ek:EqK} {x:X} {y:X} {d:Option Nat} {g:Nat}:cd cb H G ⟨d,.bin op ek x y,none⟩ E g=b9 (aw (.bin op ek x y) E H):=aQ rfl
theorem Kp {G:ab} {uop:UnOp} {x:X} {d:Option Nat} {g:Nat}:cd cb H G ⟨d,.un uop x,none⟩ E g=b9 (aw (.un uop x) E H):=aQ rfl
theorem Bg {G:ab} {cv:CvK} {x:X} {d:Option Nat} {g:Nat}:cd cb H G ⟨d,.conv cv x,none⟩ E g=b9 (aw (.conv cv x) E H):=aQ rfl
theorem Bh {G:ab} {ty:TypeId} {x:X} {d:Option Nat} {g:Nat}:cd cb H G ⟨d,.nu ty x,none⟩ E g=b9 (aw (.nu ty x) E H):=aQ rfl
theorem AH {G:ab} {f:FuncId} {xs:List X} {d:Option Nat} {g:Nat}:cd cb H G ⟨d,.fO f xs,none⟩ E g=b9 (aw (.fO f xs) E H):=aQ rfl
theorem sO {G:ab} {kk:Nat} {zero:AV} {j:Nat} {i:X} {ok:Bool} {d:Option Nat} {g:Nat}:cd cb H G ⟨d,.lookup kk zero (.t j) i ok,none⟩ E g=C1 (aw (.lookup kk zero (.t j) i ok) E H) (aw (.lookup kk zero (.t j) i ok) E G):=by
 simp only[cd,cQ,if_true]
 cases aw (.lookup kk zero (.t j) i ok) E H with
 |some v=>rfl
 |none=>cases aw (.lookup kk zero (.t j) i ok) E G<;>rfl
theorem px {G:ab} {ty:TypeId} {zero:AV} {x:X} {ok:Bool} {d:Option Nat} {g:Nat}:cd cb H G ⟨d,.eV ty zero x ok,none⟩ E g=b9 (aw (.eV ty zero x ok) E H):=aQ rfl
theorem EM {G:ab} {x:X} {j:Nat} {d:Option Nat} {g:Nat}:cd cb H G ⟨d,.ext x j,none⟩ E g=b9 (aw (.ext x j) E H):=aQ rfl
theorem xK {G:ab} {sz:Nat} {x:X} {lo:Option X} {hi:Option X} {d:Option Nat} {g:Nat}:cd cb H G ⟨d,.slice sz x lo hi,none⟩ E g=b9 (aw (.slice sz x lo hi) E H):=aQ rfl
theorem AJ {G:ab} {sz:Nat} {x:X} {lo:Option X} {hi:Option X} {mx:Option X} {d:Option Nat} {g:Nat}:cd cb H G ⟨d,.oq sz x lo hi mx,none⟩ E g=b9 (aw (.oq sz x lo hi mx) E H):=aQ rfl
theorem wc {G:ab} {x:X} {lo:Option X} {hi:Option X} {d:Option Nat} {g:Nat}:cd cb H G ⟨d,.fm x lo hi,none⟩ E g=b9 (aw (.fm x lo hi) E H):=aQ rfl
theorem Gc {G:ab} {k:Nat} {x:X} {d:Option Nat} {g:Nat}:cd cb H G ⟨d,.len k x,none⟩ E g=b9 (aw (.len k x) E H):=aQ rfl
theorem vE {G:ab} {x:X} {d:Option Nat} {g:Nat}:cd cb H G ⟨d,.bf x,none⟩ E g=b9 (aw (.bf x) E H):=aQ rfl
theorem pF {G:ab} {sz:Nat} {bytes:Nat} {zs:List AV} {x:X} {y:X} {d:Option Nat} {g:Nat}:cd cb H G ⟨d,.fM sz bytes zs x y,none⟩ E g=b9 (aw (.fM sz bytes zs x y) E H):=aQ rfl
theorem zw {G:ab} {sz bytes:Nat} {x y:X} {d:Option Nat} {g:Nat}:cd cb H G ⟨d,.vd sz bytes x y,none⟩ E g=b9 (aw (.vd sz bytes x y) E H):=aQ rfl
theorem zP {G:ab} {x:X} {d:Option Nat} {g:Nat}:cd cb H G ⟨d,.p7 x,none⟩ E g=b9 (aw (.p7 x) E H):=aQ rfl
theorem uZ {G:ab} {f:FuncId} {xs:List X} {d:Option Nat} {g:Nat}:cd cb H G ⟨d,.iT f xs,none⟩ E g=b9 (aw (.iT f xs) E H):=aQ rfl
theorem wK {G:ab} {n0 sz:Nat} {x:X} {lo hi:Option X} {d:Option Nat} {g:Nat}:cd cb H G ⟨d,.kj n0 sz x lo hi,none⟩ E g=b9 (aw (.kj n0 sz x lo hi) E H):=aQ rfl
theorem wJ {G:ab} {n0:Nat} {x:X} {d:Option Nat} {g:Nat}:cd cb H G ⟨d,.mf n0 x,none⟩ E g=b9 (aw (.mf n0 x) E H):=aQ rfl
theorem Ax {G:ab} {x y:X} {d:Option Nat} {g:Nat}:cd cb H G ⟨d,.tZ x y,none⟩ E g=b9 (aw (.tZ x y) E H):=aQ rfl
theorem A5 {G:ab} {x y:X} {d:Option Nat} {g:Nat}:cd cb H G ⟨d,.rh x y,none⟩ E g=b9 (aw (.rh x y) E H):=aQ rfl
def prV (cb:CB) (H:ab) (o:Option (FuncId×List AV)) (g:Nat):Option (AV×Option av):=
 match o with
 |some (f,as)=>prP (pcx cb f as H) g
 |none=>none
theorem wF {f:FuncId} {as:List AV} {g:Nat}:prV cb H (some (f,as)) g=prP (pcx cb f as H) g:=(rfl)
theorem rJ {f:FuncId} {caps as:List AV}:gR (.fn f caps) as=some (f,as++caps):=(rfl)
theorem kG {f:FuncId} {fs as:List AV}:gR (.bnd f fs) as=some (f,fs++as):=(rfl)
theorem wo {G:ab} {zs:List AV} {d:Option Nat} {g:Nat}:cd cb H G ⟨d,.alloc zs,none⟩ E g=some (.ptr g 0,some (.cells zs)):=by
 simp only[cd,cQ,if_true,aw]
theorem qJ {G:ab} {d:Option Nat} {x:X} {args:List X} {g:Nat}:cd cb H G ⟨d,.cf x args,none⟩ E g=prV cb H (gR (x.evE E) (args.map (·.evE E))) g:=by
 simp only[cd,cQ,if_true,aw]
 cases hc:gR (x.evE E) (args.map (·.evE E))with
 |none=>rfl
 | some q=>
   obtain⟨f,as⟩:=q;simp only[prV]
   cases hv:pcx cb f as H with
   |none=>rfl
   |some q=>cases q<;>rfl
theorem sT {G:ab} {d:Option Nat} {f:FuncId} {args:List X} {g:Nat}:cd cb H G ⟨d,.br f args,none⟩ E g=prP (pcx cb f (args.map (·.evE E)) H) g:=by
 simp only[cd,cQ,if_true,aw]
 cases hv:pcx cb f (args.map (·.evE E)) H with
 |none=>rfl
 |some q=>cases q<;>rfl
def GP (v:AV) (b:Bool) (o:Option (AV×Option av)):Option (AV×Option av):=
 match v with
 | .bool b'=>if b'=b then o else some (.tup [],none)
 |_=>some (.tup [],none)
theorem Ky {o:Option (AV×Option av)}:GP (.bool true) true o=o:=(rfl)
theorem Kj {o:Option (AV×Option av)}:GP (.bool false) false o=o:=(rfl)
theorem KD {o:Option (AV×Option av)}:GP (.bool true) false o=some (.tup [],none):=(rfl)
theorem KA {o:Option (AV×Option av)}:GP (.bool false) true o=some (.tup [],none):=(rfl)
theorem GS {p:Prop} [Decidable p] {o:Option (AV×Option av)} (h:p):GP (.bool (decide p)) true o=o:=by rw[decide_eq_true h];rfl
theorem D1 {p:Prop} [Decidable p] {o:Option (AV×Option av)} (h:¬p):GP (.bool (decide p)) false o=o:=by rw[decide_eq_false h];rfl
theorem Eb {p:Prop} [Decidable p] {o:Option (AV×Option av)} (h:p):GP (.bool (decide p)) false o=some (.tup [],none):=by rw[decide_eq_true h];rfl
theorem DB {p:Prop} [Decidable p] {o:Option (AV×Option av)} (h:¬p):GP (.bool (decide p)) true o=some (.tup [],none):=by rw[decide_eq_false h];rfl
theorem Nd {v:AV} {b:Bool} {o:Option (AV×Option av)}:(if(match v with| .bool b'=>b'==b|_=>false)=true then o else some (.tup [],none))=GP v b o:=by
 cases v with
 | bool b'=>
   by_cases hb:b'=b
   . subst hb;simp[GP]
   . simp[GP,hb]
 |_=>rfl
theorem qF {G:ab} {d:Option Nat} {op:AOp} {t:Nat} {b:Bool} {g:Nat}:cd cb H G ⟨d,op,some (t,b)⟩ E g=GP (E t) b (cd cb H G ⟨d,op,none⟩ E g):=by
 rw[<-Nd];rfl
def prO (o:Option PR) (H:ab):Option (Out×ab):=
 match o with
 |some (.plain v)=>some (.ret v,H)
 |some (.fresh sz n cs)=>some (.ret (.sl sz n cs (.own H.length)),H++[.tok sz])
 |some (.ir es)=>some (.ret (.mp H.length),H++[.map es])
 |some (.pan c)=>some (.pan c,H)
 |some (.iw _)=>none
 |none=>none
theorem wH {es:List (AV×AV)}:prO (some (.ir es)) H=some (.ret (.mp H.length),H++[.map es]):=(rfl)
theorem rG {v:AV}:prO (some (.plain v)) H=some (.ret v,H):=(rfl)
theorem rF {sz n:Nat} {cs:List AV}:prO (some (.fresh sz n cs)) H=some (.ret (.sl sz n cs (.own H.length)),H++[.tok sz]):=(rfl)
theorem AZ {c:List (AV×Bool)}:prO (some (.pan c)) H=some (.pan c,H):=(rfl)
theorem zo {f:FuncId} {args:List AV} (hl:cb.cy f=false):pcx cb f args H=cb.pc f args:=by rw[pcx,if_neg (by simp[hl])]
theorem Hj {f:FuncId} {args:List AV} (hl:cb.cy f=true):pcx cb f args H=kS cb f args H:=by rw[pcx,if_pos hl]
end rules
theorem aS {cb:CB} {H:ab} {f:FuncId} {args:List AV} {p:PR} (hl:cb.cy f=false) (h:cb.pc f args=some p):pcx cb f args H=some p:=by rw[zo hl];exact h
theorem bH {cb:CB} {H:ab} {f:FuncId} {args:List AV} (hl:cb.cy f=false) (h:cb.pc f args=none):pcx cb f args H=none:=by rw[zo hl];exact h
theorem Na {cb:CB} {H:ab} {f:FuncId} {args args':List AV} {v:AV} (hl:cb.cy f=true) (hid:args.map (bw H 4)=args') (h:cb.pc f args'=some (.plain v)) (hb:v.bare=true):pcx cb f args H=some (.plain v):=by
 rw[Hj hl,kS,hid,h];simp only[hb,if_true]
theorem jw (H:ab) (k sz n:Nat) (cs:List AV) (tk:Tk):bw H k (.sl sz n cs tk)= .sl sz n cs tk:=by cases k<;>rfl
def lQ (E:Env) (H:ab):List ov->Option (List AV)
 |[]=>some []
 | .tmp t::r=>(lQ E H r).map (E t:: ·)
 | .cell t sz ag::r=>
   match E t with
   | .ptr id off=>
     match H[id]? with
     | some (.cells cs)=>
       match dK cs off sz ag,lQ E H r with
       |some v,some vs=>some (v::vs)
       |_,_=>none
     |_=>none
   |_=>none
theorem yw (tm:List AV) (H:ab):∀rs,kT tm H rs=lQ (EV tm) H rs
 |[]=>rfl
 | .tmp t::r=>by simp only[kT,lQ,EV,yw tm H r]
 | .cell t sz ag::r=>by simp only[kT,lQ,EV,yw tm H r]<;>rfl
def uw:Ex->Option Mode
 | .normal=>some .returning
 | .ret=>some .returning
 | .panic c=>some (.panicking c)
 |_=>none
def Ends (tab:FuncId->Option an) (res:List ov) (P:Out->ab->Prop):KP:=fun e E df H=>
 match uw e with
 | some u=>
   match b6 tab (cbL tab) df u H with
   | some (.returning,H2)=>
     match lQ E H2 res with
     |some vs=>P (.ret (ae vs)) H2
     |none=>False
   |some (.panicking c,H2)=>P (.pan c) H2
   |none=>False
 |none=>False
theorem xa {tab:FuncId->Option an} {res:List ov} {P:Out->ab->Prop} {E:Env} {H:ab}:Ends tab res P .ret E [] H=match lQ E H res with
   |some vs=>P (.ret (ae vs)) H
   |none=>False:=rfl
theorem nP {tab:FuncId->Option an} {res:List ov} {P:Out->ab->Prop} {E:Env} {H:ab}:Ends tab res P .normal E [] H=match lQ E H res with
   |some vs=>P (.ret (ae vs)) H
   |none=>False:=rfl
theorem qR {tab:FuncId->Option an} {res:List ov} {P:Out->ab->Prop} {E:Env} {H H2:ab} {df:List ADf} (h:b6 tab (cbL tab) df .returning H=some (.returning,H2)):Ends tab res P .ret E df H=Ends tab res P .ret E [] H2:=by
 simp only[Ends,uw,h,b6]
theorem sQ {tab:FuncId->Option an} {res:List ov} {P:Out->ab->Prop} {E:Env} {H:ab} {k:Nat} (h:H[k]? =some .gA):Ends tab res P .ret E [.mark k] H=Ends tab res P .ret E [] (H.set k .dead):=by
 simp only[Ends,uw,b6,h]
theorem pO {tab:FuncId->Option an} {res:List ov} {P:Out->ab->Prop} {E:Env} {H:ab} {c:List (AV×Bool)}:Ends tab res P (.panic c) E [] H=P (.pan c) H:=(rfl)
theorem jL {tab:FuncId->Option an} {fi:an} {args:List AV} {H:ab} {P:Out->ab->Prop} (hl:args.length<=fi.np) (hf:fi.body.fits fi.np=true)
   (h:Ret (cbL tab) none fi.np (Ends tab fi.res P) [.code fi.body] .normal (EV (fr0 fi.np args).tm) [] H):∃o H',fR tab (cbL tab) fi args H=some (o,H')/\P o H':=by
 have hlen:(fr0 fi.np args).tm.length=fi.np:=by
   simp only[fr0,List.length_append,List.length_replicate];omega
 obtain⟨e,fr,H',h1,E',h2,h3⟩:=nj fi.body (Ret (cbL tab) none fi.np (Ends tab fi.res P) []) _ [] H _ hf (.inl rfl) ⟨hlen,rfl⟩ h;rw[fR];have h1':aN (cbL tab) none fi.body (fr0 fi.np args) H=some (e,fr,H'):=h1;rw[h1'];have h3:Ends tab fi.res P e E' fr.df H':=h3;simp only[Ends]at h3
 have fin:∀u,uw e=some u->∃o H'',(match b6 tab (cbL tab) fr.df u H' with
     |some (.returning,H2)=>(kT fr.tm H2 fi.res).map fun vs=>(.ret (ae vs),H2)
     |some (.panicking c,H2)=>some (.pan c,H2)
     |none=>none)=some (o,H'')/\P o H'':=by
   intro u hu;rw[hu]at h3;simp only at h3;split at h3
   . rename_i H2 hl2
     (try rw[hl2])
     (try simp only)
     split at h3
     . rename_i vs hvs;rw[yw,h2.2,hvs];exact⟨_,_,rfl,h3⟩
     . exact h3.elim
   . rename_i c H2 hl2
     (try rw[hl2])
     exact⟨_,_,rfl,h3⟩
   . exact h3.elim
 cases e with
 |normal=>exact fin _ rfl
 |ret=>exact fin _ rfl
 |panic c=>exact fin _ rfl
 |exit j=>exact h3.elim
 |goto j=>exact h3.elim
def mK (args:List AV):Env:=fun i=>args.getD i (.tup [])
theorem jF (a:AV) (r:List AV):mK (a::r) 0=a:=(rfl)
theorem jQ (a:AV) (r:List AV) (i:Nat):mK (a::r) (i+1)=mK r i:=(rfl)
theorem xU (i:Nat):mK [] i= .tup []:=(rfl)
theorem kK (n:Nat) (args:List AV):EV (fr0 n args).tm=mK args:=by
 funext i
 simp only[EV,fr0,mK,List.getD];by_cases h:i<args.length
 . rw[List.getElem?_append_left h]
 . rw[List.getElem?_append_right (by omega),List.getElem?_eq_none (l:=args) (by omega),List.getElem?_replicate]
   split<;>rfl
theorem C9 {m:Nat} {r:Option (Out×ab)} (h:m≠5/\m≠6):oj m r=aB r:=by simp[oj,h.1,h.2]
theorem LA {m:Nat} {r:Option (Out×ab)} (h:m=5):oj m r=pP r:=by simp[oj,h]
theorem Ga {m:Nat} {r:Option (Out×ab)} (h:m=6):oj m r=ef r:=by simp[oj,h]
theorem bc {tab:FuncId->Option an} {f:FuncId} {fi:an} {args:List AV} {r:PR} (ht:tab f=some fi) (hon:bF fi args=true) (hl:args.length<=fi.np) (hf:fi.body.fits fi.np=true)
   (h:Ret (cbL tab) none fi.np (Ends tab fi.res fun o H=>aB (some (o,H))=some r) [.code fi.body] .normal (mK (args.map aC)) [] []) (hcon:fi.con=none:=by rfl) (hm:fi.mode≠5/\fi.mode≠6:=by decide):(cbL tab).pc f args=some r:=by
 rw[<-kK fi.np]at h;apply tq;rw[pcA,ht];simp only[hcon,hon,if_true];obtain⟨o,H',h1,h2⟩:=jL (by rw[List.length_map];exact hl) hf h;rw[h1,C9 hm,h2]
theorem uQ {tab:FuncId->Option an} {f:FuncId} {fi:an} {args:List AV} {r:PR} (ht:tab f=some fi) (hon:bF fi args=true) (hl:args.length<=fi.np) (hf:fi.body.fits fi.np=true)
   (h:Ret (cbL tab) none fi.np (Ends tab fi.res fun o H=>pP (some (o,H))=some r) [.code fi.body] .normal (mK (args.map aC)) [] []) (hcon:fi.con=none:=by rfl) (hm:fi.mode=5:=by rfl):(cbL tab).pc f args=some r:=by
 rw[<-kK fi.np]at h;apply tq;rw[pcA,ht];simp only[hcon,hon,if_true];obtain⟨o,H',h1,h2⟩:=jL (by rw[List.length_map];exact hl) hf h;rw[h1,LA hm,h2]
theorem dm {tab:FuncId->Option an} {f:FuncId} {fi:an} {args:List AV} {r:PR} (ht:tab f=some fi) (hon:bF fi args=true) (hl:args.length<=fi.np) (hf:fi.body.fits fi.np=true)
   (h:Ret (cbL tab) none fi.np (Ends tab fi.res fun o H=>ef (some (o,H))=some r) [.code fi.body] .normal (mK (args.map aC)) [] []) (hcon:fi.con=none:=by rfl) (hm:fi.mode=6:=by rfl):(cbL tab).pc f args=some r:=by
 rw[<-kK fi.np]at h;apply tq;rw[pcA,ht];simp only[hcon,hon,if_true];obtain⟨o,H',h1,h2⟩:=jL (by rw[List.length_map];exact hl) hf h;rw[h1,Ga hm,h2]
theorem eg {tab:FuncId->Option an} {f:FuncId} {fi:an} {args:List AV} {H:ab} {P:Out->ab->Prop} (ht:tab f=some fi) (hon:bF fi args=false) (hl:args.length<=fi.np) (hf:fi.body.fits fi.np=true)
   (h:Ret (cbL tab) none fi.np (Ends tab fi.res P) [.code fi.body] .normal (mK args) [] H) (hcon:fi.con=none:=by rfl) (hicon:fi.mn=none:=by rfl):∃o H',(cbL tab).ic f args H=some (o,H')/\P o H':=by
 rw[<-kK fi.np]at h;obtain⟨o,H',h1,h2⟩:=jL hl hf h;refine⟨o,H',EE ?_,h2⟩;rw[icA,ht];simp only[hcon,hicon,hon,Option.isSome_none,Bool.or_self,Bool.false_eq_true,if_false];exact h1
theorem bW {tab:FuncId->Option an} {f:FuncId} {fi:an} {args:List AV} (ht:tab f=some fi) (hon:bF fi args=false) (hcon:fi.con=none:=by rfl):(cbL tab).pc f args=none:=by
 cases hp:(cbL tab).pc f args with
 |none=>rfl
 | some r=>
   obtain⟨k,hk⟩:=dC.1 hp
   cases k with
   |zero=>cases hk
   | succ k=>
     have hk:pcA tab (cbs tab k) f args=some r:=hk;rw[pcA,ht]at hk;simp only[hcon,hon,Bool.false_eq_true,if_false]at hk;cases hk
end Go.Am
