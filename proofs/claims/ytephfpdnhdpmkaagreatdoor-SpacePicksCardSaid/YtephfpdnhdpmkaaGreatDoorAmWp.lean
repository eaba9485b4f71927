/- THE RULES OF A WALK: what is to be shown of code, over an environment of temporaries as a function; sound for the interpreter. No condition. -/
import Derived.Test.YtephfpdnhdpmkaaGreatDoorAmLim
open Int (reduceEq)
open Nat (reduceEqDiff reduceAdd reduceMul reduceLT reduceLeDiff)
set_option linter.all false
namespace Go.Am
open Go
abbrev Env:=Nat->AV
def upd (E:Env) (j:Nat) (v:AV):Env:=fun i=>if i=j then v else E i
def cM (E:Env) (d:Option Nat) (v:AV):Env:=
 match d with
 |some d=>upd E d v
 |none=>E
theorem o7 (E:Env) (j:Nat) (v:AV) (i:Nat):upd E j v i=if i=j then v else E i:=(rfl)
theorem j8 (E:Env) (j:Nat) (v:AV):cM E (some j) v=upd E j v:=(rfl)
theorem kg (E:Env) (v:AV):cM E none v=E:=(rfl)
def X.evE (E:Env):X->AV
 | .t i=>E i
 | .c v=>v
theorem pS (E:Env) (i:Nat):X.evE E (.t i)=E i:=(rfl)
theorem LB (E:Env) (v:AV):X.evE E (.c v)=v:=(rfl)
def pD (E:Env):List (Nat×Nat×X)->List (Nat×Nat×AV)
 |[]=>[]
 |(o,s,x)::r=>(o,s,x.evE E)::pD E r
def cO (E:Env) (x:Option X) (d:Nat):Option Nat:=
 match x with
 |none=>some d
 |some x=>asNat (x.evE E)
def aA (o:AOp) (E:Env) (H:ab):Option AV:=
 match o with
 | .mv x=>some (x.evE E)
 | .pick c a b=>match c.evE E with
   | .bool t=>some (if t then a.evE E else b.evE E)
   |_=>none
 | .build zs ps=>(dV zs (pD E ps)).map .agg
 | .aY sz len zs ps=>match dV zs (pD E ps)with
   |some cs=>if aw cs&&cs.length==len*sz then some (.sl sz len cs (if len=0 then .e else .ro))else none
   |none=>none
 | .ir sz len zs ps=>match dV zs (pD E ps)with
   |some cs=>if aw cs&&cs.length==len*sz then some (.sl sz len cs .e)else none
   |none=>none
 | .mm mx x y=>match x.evE E,y.evE E with
   | .int k a,.int _ b=>some (.int k (if mx then(if a<b then b else a)else(if b<a then b else a)))
   |_,_=>none
 | .load sz ag x=>match x.evE E with
   | .ptr id off=>match H[id]? with
     |some (.cells cs)=>dP cs off sz ag
     |_=>none
   | .bX cs=>dP cs 0 sz ag
   |_=>none
 | .fld off x=>match x.evE E with
   | .ptr id o=>some (.ptr id (o+off))
   | .bX cs=>some (.bX (cs.drop off))
   |_=>none
 | .part off sz ag x=>match x.evE E with
   | .agg cs=>dP cs off sz ag
   |_=>none
 | .ixa sz x i=>match x.evE E,i.evE E with
   | .sl sz' n cs _,.int _ j=>if sz=sz'/\0<=j/\j<n then some (.bX (cs.drop (j.toNat*sz)))else none
   | .msl sz' id off n,.int _ j=>if sz=sz'/\0<=j/\j<n then some (.ptr id (off+j.toNat*sz))else none
   | .rsl sz' id n,.int _ j=>if sz=sz'/\0<=j/\j<n then some (.ptr id (j.toNat*sz))else none
   |_,_=>none
 | .bn n sz x i=>match x.evE E,i.evE E with
   | .ptr id off,.int _ j=>if 0<=j/\j<n then some (.ptr id (off+j.toNat*sz))else none
   | .bX cs,.int _ j=>if 0<=j/\j<n then some (.bX (cs.drop (j.toNat*sz)))else none
   |_,_=>none
 | .ixv n sz ag x i=>match x.evE E,i.evE E with
   | .agg cs,.int _ j=>if 0<=j/\j<n then dP cs (j.toNat*sz) sz ag else none
   |_,_=>none
 | .ixs x i=>match x.evE E,i.evE E with
   | .str s,.int _ j=>if 0<=j then(s[j.toNat]?).map fun b=> .int .u8 b.toNat else none
   |_,_=>none
 | .bin op ek x y=>bC op ek x y (x.evE E) (y.evE E)
 | .un op x=>unV op (x.evE E)
 | .conv k x=>match k,x.evE E with
   | .int k,.int _ n=>some (.int k (k.wrap n))
   | .same,.str s=>some (.str s)
   | .s2b,.str s=>if s.size<=70368744177664 then some (.sl 1 s.size (jR s) .ro)else none
   | .b2s,.sl sz n cs _=>if sz=1∨n=0 then(hU (cs.take n)).map fun l=> .str ⟨l.toArray⟩else none
   |_,_=>none
 | .oh t x=>some (.iface t (x.evE E))
 | .chk lx sx=>if cr (lx.map (·.evE E)) (sx.map (·.evE E))then some (.tup [])else none
 | .qG x=>if aw (x.evE E).flat then some (.bX (x.evE E).flat)else none
 | .vN sz bytes x y=>match x.evE E,y.evE E with
   | .sl sz' 0 [] .e,.sl sz'' m ds _=>
     if 0<sz/\m*bytes<=70368744177664/\m<=70368744177664/\m≠0/\sz''=sz/\m*sz<=ds.length/\aw (ds.take (m*sz))=true then some (.sl sz m (ds.take (m*sz)) .ro)
     else if m=0 then some (.sl sz' 0 [] .e)else none
   |_,_=>none
 | .gf f caps=>some (.fn f (caps.map (·.evE E)))
 | .jq f fs=>some (.bnd f (fs.map (·.evE E)))
 | .rT x c=>match x.evE E,c.evE E with
   | .str s,.int .u8 k=>some (Mw (rS (UInt8.ofNat k.toNat) s.data.toList))
   |_,_=>none
 | .uK x c=>match x.evE E,c.evE E with
   | .str s,.int .u8 k=>some (.int .i64 (s.data.toList.count (UInt8.ofNat k.toNat):Nat))
   |_,_=>none
 | .fS sz bytes zs l c=>match gd sz bytes zs (l.evE E) (c.evE E)with
   |some n=>some (.sl sz n (cf n zs) .e)
   |none=>none
 | .lookup kk zero x i ok=>match x.evE E with
   | .fB=>match bk kk (i.evE E) (i.evE E)with
     |some _=>some (if ok then .tup [zero,.bool false] else zero)
     |none=>none
   | .mp id=>match H[id]? with
     | some (.map es)=>match bk kk (i.evE E) (i.evE E),cB kk (i.evE E) es 0 with
       |some _,some (some (_,v))=>some (if ok then .tup [v,.bool true] else v)
       |some _,some none=>some (if ok then .tup [zero,.bool false] else zero)
       |_,_=>none
     |_=>none
   |_=>none
 | .ff t zero x ok=>match x.evE E with
   | .iface t' v=>if t'=t then some (if ok then .tup [v,.bool true] else v)else if ok then some (.tup [zero,.bool false])else none
   | .fJ=>if ok then some (.tup [zero,.bool false])else none
   |_=>none
 | .ext x i=>match x.evE E with
   | .tup vs=>vs[i]?
   |_=>none
 | .slice sz x lo hi=>match x.evE E with
   | .sl sz' n cs tk=>match cO E lo 0,cO E hi n with
     | some l,some h=>
       if sz=sz'/\0<sz/\l<=h/\h*sz<=cs.length then
         some (if l=0/\h=n then .sl sz n cs tk else .sl sz (h-l) (cs.drop (l*sz)) .ro)
       else if tk.isZ=true/\l=0/\h=0 then some (.sl sz' n cs tk)else none
     |_,_=>none
   | .msl sz' id off n=>match cO E lo 0,cO E hi n with
     |some l,some h=>if sz=sz'/\0<sz/\l<=h/\h<=n then some (if l=h then .sl sz 0 [] .ro else .msl sz id (off+l*sz) (h-l))else none
     |_,_=>none
   |_=>none
 | .oV sz x lo hi mx=>match x.evE E with
   | .sl sz' n cs tk=>match cO E lo 0,cO E hi n,cO E mx n with
     | some l,some h,some m=>
       if sz=sz'/\0<sz/\l<=h/\h=m/\h*sz<=cs.length/\tk.isZ=false then
         some (.sl sz (h-l) ((cs.take (h*sz)).drop (l*sz)) .ro)
       else none
     |_,_,_=>none
   | .msl sz' id off n=>match cO E lo 0,cO E hi n,cO E mx n with
     |some l,some h,some m=>if sz=sz'/\0<sz/\l<=h/\h=m/\h<=n then some (if l=h then .sl sz 0 [] .ro else .msl sz id (off+l*sz) (h-l))else none
     |_,_,_=>none
   |_=>none
 | .fG x lo hi=>match x.evE E with
   | .str s=>match cO E lo 0,cO E hi s.size with
     |some l,some h=>if l<=h/\h<=s.size then some (.str (s.extract l h))else none
     |_,_=>none
   |_=>none
 | .kT n sz x lo hi=>match x.evE E with
   | .ptr id off=>match cO E lo 0,cO E hi n with
     |some l,some h=>if l<=h/\h<=n then some (if l=h then .sl sz 0 [] .ro else .msl sz id (off+l*sz) (h-l))else none
     |_,_=>none
   | .bX cs=>match cO E lo 0,cO E hi n with
     |some l,some h=>if l<=h/\h<=n/\n*sz<=cs.length then some (if l=h then .sl sz 0 [] .ro else .sl sz (h-l) ((cs.take (n*sz)).drop (l*sz)) .ro)else none
     |_,_=>none
   |_=>none
 | .l7 n x=>match x.evE E with
   | .sl _ m cs _=>if 0<n/\n<=m then some (.bX cs)else none
   | .msl _ id off m=>if n<=m then some (.ptr id off)else none
   |_=>none
 | .len k x=>match k,x.evE E with
   |0,.sl _ n _ _=>some (.int .i64 n)
   |0,.msl _ _ _ n=>some (.int .i64 n)
   |0,.rsl _ _ n=>some (.int .i64 n)
   |1,.str s=>some (.int .i64 s.size)
   |2,.fB=>some (.int .i64 0)
   | 2,.mp id=>match H[id]? with
     |some (.map es)=>some (.int .i64 es.length)
     |_=>none
   |_,_=>none
 | .bg x=>match x.evE E with
   | .ptr id off=>some (.ptr id off)
   | .bX cs=>some (.bX cs)
   | .fn f cs=>some (.fn f cs)
   | .bnd f cs=>some (.bnd f cs)
   | .iface t v=>some (.iface t v)
   |_=>none
 |_=>none
def a8 (o:AOp) (E:Env) (H:ab):Option (Nx×ab):=
 match o with
 | .alloc zs=>some (.val (.ptr H.length 0),H++[.cells zs])
 | .box x=>if aw (x.evE E).flat then some (.val (.ptr H.length 0),H++[.cells (x.evE E).flat])else none
 | .store sz a x=>match a.evE E with
   | .ptr id off=>match H[id]? with
     | some (.cells cs)=>
       if(x.evE E).flat.length=sz/\off+sz<=cs.length/\aw (x.evE E).flat then
         some (.skip,H.set id (.cells (cs.take off++(x.evE E).flat++cs.drop (off+sz))))
       else none
     |_=>none
   |_=>none
 | .clr sz zs x=>match x.evE E with
   | .sl _ 0 _ _=>some (.val (.tup []),H)
   | .msl sz' id off n=>match H[id]? with
     | some (.cells cs)=>
       if sz'=sz/\zs.length=sz/\n≠0/\off+n*sz<=cs.length/\aw zs=true then
         some (.val (.tup []),H.set id (.cells (cs.take off++cf n zs++cs.drop (off+n*sz))))
       else none
     |_=>none
   |_=>none
 | .cpy sz x y=>match x.evE E,rowOf H (y.evE E)with
   | .msl sz' id off n,.sl sz'' m ds _=>match H[id]? with
     | some (.cells cs)=>
       if m=0 then some (.val (.int .i64 0),H)
       else if sz'=sz/\sz''=sz/\min m n*sz<=ds.length/\off+min m n*sz<=cs.length/\aw (ds.take (min m n*sz))=true then
         some (.val (.int .i64 (min m n:Nat)),H.set id (.cells (cs.take off++ds.take (min m n*sz)++cs.drop (off+min m n*sz))))
       else none
     |_=>none
   |_,_=>none
 | .jt=>some (.val (.mp H.length),H++[.map []])
 | .iL kk x k v=>match x.evE E with
   | .mp id=>match H[id]? with
     | some (.map es)=>match bk kk (k.evE E) (k.evE E),cB kk (k.evE E) es 0 with
       |some _,some (some (i,_))=>some (.skip,H.set id (.map (es.set i (k.evE E,v.evE E))))
       |some _,some none=>some (.skip,H.set id (.map (es++[(k.evE E,v.evE E)])))
       |_,_=>none
     |_=>none
   |_=>none
 | .append sz bytes x y=>fQ sz bytes (x.evE E) (rowOf H (y.evE E)) H
 | .iS sz bytes x y=>match x.evE E,y.evE E with
   | .sl sz' n cs tk,.sl sz'' m ds _=>
     if 0<sz/\(n+m)*bytes<=70368744177664/\n+m<=70368744177664 then
       if m≠0/\sz''=sz/\m*sz<=ds.length/\aw (ds.take (m*sz))/\n=0/\tk.empty then some (.val (.msl sz H.length 0 m),H++[.cells (ds.take (m*sz))])
       else if m=0/\tk.empty then some (.val (.sl sz' n cs tk),H)else none
     else none
   |_,_=>none
 | .fa sz bytes x y=>jx sz bytes (x.evE E) (y.evE E) H
 | .bw f args=>some (.enter f (args.map (·.evE E)),H)
 | .jC rw f args=>some (.dR rw f (args.map (·.evE E)),H)
 | .mI f args=>some (.dR false f (args.map (·.evE E)),H)
 | .rZ x=>if aw (x.evE E).flat then some (.val (.ptr H.length 0),H++[.cells (x.evE E).flat])else none
 | .ct x args=>match x.evE E with
   | .fn f caps=>some (.enter f (args.map (·.evE E)++caps),H)
   | .bnd f fs=>some (.enter f (fs++args.map (·.evE E)),H)
   | .yld id=>some (.yield id (args.map (·.evE E)),H)
   |_=>none
 | .fE=>some (.fE,H)
 | .panic x=>match x.evE E with
   | .iface t v=>some (.pan (.iface t v),H)
   |_=>none
 | .dfr x args=>match x.evE E with
   | .fn f caps=>some (.dfr (.call f (args.map (·.evE E)++caps)),H)
   |_=>none
 | .e9 sz bytes zs l c=>match gd sz bytes zs (l.evE E) (c.evE E)with
   |some n=>some (.val (.msl sz H.length 0 n),H++[.cells (cf n zs)])
   |none=>none
 | .oF sz len zs ps=>match dV zs (pD E ps)with
   |some cs=>if aw cs&&cs.length==len*sz then some (.val (.rsl sz H.length len),H++[.cells cs])else none
   |none=>none
 | .ui sz bytes zs x n=>match x.evE E,gd sz bytes zs (n.evE E) (n.evE E)with
   | .sl sz' k cs (.own g),some m=>fQ sz bytes (.sl sz' k cs (.own g)) (.sl sz m (cf m zs) .ro) H
   | .rsl sz' id k,some m=>jx sz bytes (.rsl sz' id k) (.sl sz m (cf m zs) .ro) H
   |_,_=>none
 |_=>none
theorem tg {k:Nat} {x:X} {E:Env} {H:ab}:aA (.len k x) E H=(match k,x.evE E with
   |0,.sl _ n _ _=>some (.int .i64 n)
   |0,.msl _ _ _ n=>some (.int .i64 n)
   |0,.rsl _ _ n=>some (.int .i64 n)
   |1,.str s=>some (.int .i64 s.size)
   |2,.fB=>some (.int .i64 0)
   | 2,.mp id=>match H[id]? with
     |some (.map es)=>some (.int .i64 es.length)
     |_=>none
   |_,_=>none):=(rfl)
theorem qE {k:CvK} {x:X} {E:Env} {H:ab}:aA (.conv k x) E H=(match k,x.evE E with
   | .int k,.int _ n=>some (.int k (k.wrap n))
   | .same,.str s=>some (.str s)
   | .s2b,.str s=>if s.size<=70368744177664 then some (.sl 1 s.size (jR s) .ro)else none
   | .b2s,.sl sz n cs _=>if sz=1∨n=0 then(hU (cs.take n)).map fun l=> .str ⟨l.toArray⟩else none
   |_,_=>none):=(rfl)
def EV (tm:List AV):Env:=fun i=>tm.getD i (.tup [])
theorem iD (tm:List AV) (x:X):x.ev tm=x.evE (EV tm):=by cases x<;>rfl
theorem yY (tm:List AV):∀ps,evP tm ps=pD (EV tm) ps
 |[]=>rfl
 |(o,s,x)::r=>by simp only[evP,pD,iD,yY tm r]
theorem Fh (tm:List AV) (x:Option X) (d:Nat):bound tm x d=cO (EV tm) x d:=by
 cases x with
 |none=>rfl
 |some x=>simp only[bound,cO,iD]
theorem AX (tm:List AV) (o:AOp) (H:ab):aU o tm H=aA o (EV tm) H:=by
 have h:(fun x:X=>x.ev tm)=(fun x:X=>x.evE (EV tm)):=funext (iD tm)
 cases o<;>(try simp only[aU,aA,iD,yY,Fh])<;>(try rfl)
theorem KQ (tm:List AV) (o:AOp) (H:ab):bN o tm H=a8 o (EV tm) H:=by
 have h:(fun x:X=>x.ev tm)=(fun x:X=>x.evE (EV tm)):=funext (iD tm)
 cases o<;>(try simp only[bN,a8,iD,yY])<;>(try rfl)
def de (E:Env) (g:Option (Nat×Bool)):Bool:=
 match g with
 |none=>true
 | some (t,b)=>match E t with
   | .bool b'=>b'==b
   |_=>false
theorem nc (tm:List AV) (g:Option (Nat×Bool)):bE tm g=de (EV tm) g:=by
 cases g with
 |none=>rfl
 | some g=>
   obtain⟨t,b⟩:=g;simp only[bE,de,EV,List.getD]
   cases tm[t]? with
   |none=>rfl
   |some v=>cases v<;>rfl
def Ag (n:Nat) (tm:List AV) (E:Env):Prop:=tm.length=n/\EV tm=E
theorem Ag.set {n:Nat} {tm:List AV} {E:Env} (h:Ag n tm E) {j:Nat} (hj:j<n) (v:AV):Ag n (tm.set j v) (upd E j v):=by
 refine⟨by rw[List.length_set];exact h.1, ?_⟩;rw[<-h.2]
 funext i
 simp only[EV,upd,List.getD,List.getElem?_set];by_cases hi:j=i
 . subst hi;simp[h.1,hj]
 . rw[if_neg hi,if_neg (fun e=>hi e.symm)]
def HM (n:Nat):Option Nat->Bool
 |some d=>Nat.blt d n
 |none=>true
theorem Ag.bZ {n:Nat} {tm:List AV} {E:Env} (h:Ag n tm E) {d:Option Nat} (hj:HM n d=true) (v:AV):Ag n (bZ tm d v) (cM E d v):=by
 cases d with
 |none=>exact h
 |some d=>exact h.set (by simpa[HM,Nat.blt_eq] using hj) v
def ml (n:Nat):List ai->Bool
 |[]=>true
 |o::r=>HM n o.dst&&ml n r
def aD.fits (n:Nat):aD->Bool
 | .region ops=>ml n ops
 | .drawn a b=>ml n a&&ml n b
 | .seq a b=>a.fits n&&b.fits n
 | .cond _ a b=>a.fits n&&b.fits n
 | .block _ a=>a.fits n
 | .loop a=>a.fits n
 | .range _ _ a b=>a.fits n&&b.fits n
 | .scope a=>a.fits n
 | .b9 a b=>a.fits n&&b.fits n
 |_=>true
abbrev KP:=Ex->Env->List ADf->ab->Prop
def wpr (cb:CB) (K:KP):List ai->Env->List ADf->ab->Prop
 |[],E,df,H=>K .normal E df H
 | o::rest,E,df,H=>
   if de E o.guard then
     match aA o.op E H with
     |some v=>wpr cb K rest (cM E o.dst v) df H
     | none=>
       match a8 o.op E H with
       |some (.val v,H')=>wpr cb K rest (cM E o.dst v) df H'
       |some (.skip,H')=>wpr cb K rest (cM E o.dst (.tup [])) df H'
       | some (.enter f args,H')=>
         match dY cb f args H' with
         |some (.ret v,H'')=>wpr cb K rest (cM E o.dst v) df H''
         |some (.pan c,H'')=>K (.panic c) E df H''
         |none=>False
       | some (.dR rw f args,H')=>
         match eL cb rw f args H' with
         |some (.ret v,H'')=>wpr cb K rest (cM E o.dst v) df H''
         |some (.pan c,H'')=>K (.panic c) E df H''
         |none=>False
       | some (.yield id args,H')=>
         match cb.yl id args H' with
         |some (.ret v,H'')=>wpr cb K rest (cM E o.dst v) df H''
         |some (.pan c,H'')=>K (.panic c) E df H''
         |none=>False
       |some (.pan v,H')=>K (.panic [(v,false)]) E df H'
       |some (.dfr d,H')=>wpr cb K rest (cM E o.dst (.tup [])) (d::df) H'
       |_=>False
   else wpr cb K rest (cM E o.dst (.tup [])) df H
def oD:List ai->Bool
 |[]=>true
 |o::r=>(match o.op with| .dfr _ _=>false|_=>true)&&oD r
def aD.plain:aD->Bool
 | .region ops=>oD ops
 | .drawn _ b=>oD b
 | .seq a b=>a.plain&&b.plain
 | .cond _ a b=>a.plain&&b.plain
 | .block _ a=>a.plain
 | .loop a=>a.plain
 | .range _ _ _ _=>false
 | .scope a=>a.plain
 | .b9 a b=>a.plain&&b.plain
 |_=>true
def PD (rd:Option Nat) (c:aD):Prop:=rd=none∨c.plain=true
def Ly (rd:Option Nat) (c:List ai):Prop:=rd=none∨oD c=true
theorem zM {cb:CB} {rd:Option Nat} {n:Nat} {K:KP}:∀(ops:List ai) (E:Env) (df:List ADf) (H:ab) (tm:List AV),ml n ops=true->Ly rd ops->Ag n tm E->wpr cb K ops E df H→
   ∃e fr H',aV cb rd ops ⟨tm,df⟩ H=some (e,fr,H')/\∃E',Ag n fr.tm E'/\K e E' fr.df H':=by
 intro ops
 induction ops with
 |nil=>intro E df H tm _ _ ha h;exact⟨.normal,_,_,rfl,E,ha,h⟩
 | cons o ops ih=>
   intro E df H tm hf hok ha h;simp only[ml,Bool.and_eq_true]at hf
   have hok':Ly rd ops:=by
     rcases hok with h|h
     . exact .inl h
     . simp only[oD,Bool.and_eq_true]at h;exact .inr h.2
   have hE:=ha.2;rw[aV];rw[wpr]at h;simp only[nc,AX,KQ,hE];split at h
   . rename_i hw;rw[if_pos hw];split at h
     . rename_i hv;rw[hv];exact ih _ _ _ _ hf.2 hok' (ha.bZ hf.1 _) h
     . rename_i hv;rw[hv];simp only;split at h
       . rename_i hx;rw[hx];exact ih _ _ _ _ hf.2 hok' (ha.bZ hf.1 _) h
       . rename_i hx;rw[hx];exact ih _ _ _ _ hf.2 hok' (ha.bZ hf.1 _) h
       . rename_i hx;rw[hx];simp only;split at h
         . rename_i hy;rw[hy];exact ih _ _ _ _ hf.2 hok' (ha.bZ hf.1 _) h
         . rename_i hy;rw[hy];exact⟨_,_,_,rfl,E,ha,h⟩
         . exact h.elim
       . rename_i hx;rw[hx];simp only;split at h
         . rename_i hy;rw[hy];exact ih _ _ _ _ hf.2 hok' (ha.bZ hf.1 _) h
         . rename_i hy;rw[hy];exact⟨_,_,_,rfl,E,ha,h⟩
         . exact h.elim
       . rename_i hx;rw[hx];simp only;split at h
         . rename_i hy;rw[hy];exact ih _ _ _ _ hf.2 hok' (ha.bZ hf.1 _) h
         . rename_i hy;rw[hy];exact⟨_,_,_,rfl,E,ha,h⟩
         . exact h.elim
       . rename_i hx;rw[hx];exact⟨_,_,_,rfl,E,ha,h⟩
       . rename_i d H' hx;rw[hx];simp only
         have hrd:rd.isSome=false:=by
           rcases hok with h|h
           . rw[h];rfl
           . simp only[oD,Bool.and_eq_true]at h;have h1:=h.1;exfalso;revert hx h1
             cases o.op<;>simp only[a8]<;>intro hx h1<;>(try cases h1)<;>(try (cases hx))<;>(repeat' split at hx)<;>(try cases hx)<;>(try (simp only[fQ,jx]at hx))<;>(repeat' split at hx)<;>(try cases hx)
         simp only[hrd,Bool.false_eq_true,if_false];exact ih _ _ _ _ hf.2 hok' (ha.bZ hf.1 _) h
       . exact h.elim
   . rename_i hw;rw[if_neg hw];exact ih _ _ _ _ hf.2 hok' (ha.bZ hf.1 _) h
def M3 (h:Nat) (op:AOp) (E:Env) (G:ab) (g:Nat):Option (AV×Option aj):=
 match op with
 | .oZ sz bytes x y=>lj sz bytes (x.evE E) (y.evE E) g
 | .ja sz bytes zs x n=>mK h sz bytes zs (x.evE E) (n.evE E) G g
 |_=>none
theorem LU (h:Nat) (op:AOp) (tm:List AV) (G:ab) (g:Nat):apX h op tm G g=M3 h op (EV tm) G g:=by
 cases op<;>simp only[apX,M3,iD]
def cm (cb:CB) (H G:ab) (o:ai) (E:Env) (g:Nat):Option (AV×Option aj):=
 if de E o.guard then
   match aA o.op E H with
   |some v=>some (v,none)
   | none=>
     match o.op with
     | .alloc zs=>some (.ptr g 0,some (.cells zs))
     | .lookup kk zero (.t i) k ok=>(aA (.lookup kk zero (.t i) k ok) E G).map fun v=>(v,none)
     | .bw f args=>
       match pcx cb f (args.map (·.evE E)) H with
       |some (.plain v)=>some (v,none)
       |some (.fresh sz n cs)=>some (.sl sz n cs (.own g),some (.tok sz))
       |some (.iO es)=>some (.mp g,some (.map es))
       |_=>none
     | .ct x args=>
       match ig (x.evE E) (args.map (·.evE E))with
       | some (f,as)=>
         match pcx cb f as H with
         |some (.plain v)=>some (v,none)
         |some (.fresh sz n cs)=>some (.sl sz n cs (.own g),some (.tok sz))
         |some (.iO es)=>some (.mp g,some (.map es))
         |_=>none
       |none=>none
     | .mI f args=>
       match pcx cb f (args.map (·.evE E)) H with
       |some (.fresh sz n cs)=>if cs.all (·.lz)&&cs.length==n*sz then some (.msl sz g 0 n,some (.cells cs))else none
       |_=>none
     | .rZ x=>if aw (x.evE E).flat then some (.ptr g 0,some (.cells (x.evE E).flat))else none
     |op=>M3 H.length op E G g
 else some (.tup [],none)
def qO (o:ai) (E:Env):Option Nat:=
 match o.op with
 | .ja _ _ _ x _=>if de E o.guard then(match x.evE E with
   | .sl _ _ _ (.own g0)=>some g0
   |_=>none)else none
 |_=>none
theorem CL (o:ai) (tm:List AV):bR o tm=qO o (EV tm):=by
 unfold bR qO;rw[nc]
 cases o.op<;>(try simp only[iD])<;>(try rfl)<;>(split<;>rfl)
theorem L6 (cb:CB) (H G:ab) (o:ai) (tm:List AV) (g:Nat):ap1 cb H G o tm g=cm cb H G o (EV tm) g:=by
 have h:(fun x:X=>x.ev tm)=(fun x:X=>x.evE (EV tm)):=funext (iD tm);simp only[ap1,cm,nc,AX,LU]
 cases o.op<;>(try simp only[iD])<;>(try rfl)
def mY (H:ab) (e:List aj):ab:=H++e
def zH (cb:CB) (H:ab) (K:Env->List aj->Prop):List ai->Env->List aj->Prop
 |[],E,e=>K E e
 | o::rest,E,e=>
   match cm cb H (mY H e) o E (H.length+e.length)with
   |some (v,k)=>zH cb H K rest (cM E o.dst v) (kD H.length (qO o E) (e++k.toList))
   |none=>False
theorem IZ {cb:CB} {n:Nat} {H:ab} {K:Env->List aj->Prop}:∀(ops:List ai) (E:Env) (e:List aj) (tm:List AV),ml n ops=true->Ag n tm E->zH cb H K ops E e→
   ∃tm' e',jv cb H ops tm e=some (tm',e')/\∃E',Ag n tm' E'/\K E' e':=by
 intro ops
 induction ops with
 |nil=>intro E e tm _ ha h;exact⟨_,_,rfl,E,ha,h⟩
 | cons o ops ih=>
   intro E e tm hf ha h;simp only[ml,Bool.and_eq_true]at hf;rw[jv,L6,ha.2];rw[zH]at h;split at h
   . rename_i hv;rw[show H++e=mY H e from rfl,hv];rw[CL,ha.2];exact ih _ _ _ hf.2 (ha.bZ hf.1 _) h
   . exact h.elim
def ru (cb:CB) (rd:Option Nat) (n:Nat) (c:aD) (K:KP) (E:Env) (df:List ADf) (H:ab):Prop:=
 ∀tm,Ag n tm E->∃e fr H',cb.run rd c ⟨tm,df⟩ H=some (e,fr,H')/\∃E',Ag n fr.tm E'/\K e E' fr.df H'
def yV (cb:CB) (rd:Option Nat) (n:Nat) (x:X) (ps:List Nat) (as bd:aD) (K:KP) (E:Env) (df:List ADf) (H:ab):Prop:=
 ∀ tm,Ag n tm E→
   match (match rd with
     |none=>some (H.length+1,.mark H.length::df,H++[.cZ,.loop 0 .normal tm ps as bd])
     | some l=>match cc H l with
       |some _=>some (H.length,df,H++[.loop 0 .normal tm ps as bd])
       |none=>none)with
   | some (id,df1,H1)=>
     match x.evE E with
     | .fn f caps=>
       match cb.ic f (.yld id::caps) H1 with
       | some (.ret _,H2)=>
         match cc H2 id with
         |some (st,pend,tm',ps',as',bd')=>st≠1/\pend.jumps=true/\K pend E df1 (H2.set id (.loop 3 pend tm' ps' as' bd'))
         |none=>False
       |_=>False
     |_=>False
   |none=>False
def wpc (cb:CB) (rd:Option Nat) (n:Nat):aD->KP->Env->List ADf->ab->Prop
 | .skip,K,E,df,H=>K .normal E df H
 | .label _,K,E,df,H=>K .normal E df H
 | .exit id,K,E,df,H=>K (.exit id) E df H
 | .goto l,K,E,df,H=>K (.goto l) E df H
 | .ret,K,E,df,H=>K .ret E df H
 | .region ops,K,E,df,H=>wpr cb K ops E df H
 | .drawn pre tail,K,E,df,H=>zH cb H (fun E' e=>wpr cb K tail E' df (H++e)) pre E []
 | .seq a b,K,E,df,H=>wpc cb rd n a (fun e E' df' H'=>match e with| .normal=>wpc cb rd n b K E' df' H'|e=>K e E' df' H') E df H
 | .cond x a b,K,E,df,H=>match x.evE E with
   | .bool true=>wpc cb rd n a K E df H
   | .bool false=>wpc cb rd n b K E df H
   |_=>False
 | .block id a,K,E,df,H=>wpc cb rd n a (fun e E' df' H'=>match e with| .exit id'=>if id'=id then K .normal E' df' H' else K (.exit id') E' df' H'|e=>K e E' df' H') E df H
 | .loop a,K,E,df,H=>wpc cb rd n a (fun e E' df' H'=>match e with| .normal=>ru cb rd n (.loop a) K E' df' H'|e=>K e E' df' H') E df H
 | .scope a,K,E,df,H=>wpc cb rd n a (fun e E' df' H'=>match e with
   | .goto l=>match eZ a l with
     |some rest=>ru cb rd n (.b9 a rest) K E' df' H'
     |none=>K (.goto l) E' df' H'
   |e=>K e E' df' H') E df H
 | .b9 w a,K,E,df,H=>wpc cb rd n a (fun e E' df' H'=>match e with
   | .goto l=>match eZ w l with
     |some rest=>ru cb rd n (.b9 w rest) K E' df' H'
     |none=>K (.goto l) E' df' H'
   |e=>K e E' df' H') E df H
 | .range x ps as bd,K,E,df,H=>yV cb rd n x ps as bd K E df H
def aD.rng:aD->Bool
 | .range _ _ _ _=>true
 | .seq a b=>a.rng||b.rng
 | .cond _ a b=>a.rng||b.rng
 | .block _ a=>a.rng
 | .loop a=>a.rng
 | .scope a=>a.rng
 | .b9 a b=>a.rng||b.rng
 |_=>false
def aD.iQ:aD->Bool
 | .region ops=>oD ops
 | .drawn _ b=>oD b
 | .seq a b=>a.iQ&&b.iQ
 | .cond _ a b=>a.iQ&&b.iQ
 | .block _ a=>a.iQ
 | .loop a=>a.iQ
 | .range _ _ _ _=>true
 | .scope a=>a.iQ
 | .b9 a b=>a.iQ&&b.iQ
 |_=>true
theorem od {cb:CB} {rd:Option Nat} {n:Nat}:∀(c:aD) (K:KP) (E:Env) (df:List ADf) (H:ab) (tm:List AV),c.fits n=true->(rd=none∨c.iQ=true)->Ag n tm E->wpc cb rd n c K E df H→
   ∃e fr H',aN cb rd c ⟨tm,df⟩ H=some (e,fr,H')/\∃E',Ag n fr.tm E'/\K e E' fr.df H':=by
 intro c
 induction c with
 |skip=>intro K E df H tm _ _ ha h;exact⟨_,_,_,rfl,E,ha,h⟩
 |label l=>intro K E df H tm _ _ ha h;exact⟨_,_,_,rfl,E,ha,h⟩
 |exit l=>intro K E df H tm _ _ ha h;exact⟨_,_,_,rfl,E,ha,h⟩
 |goto l=>intro K E df H tm _ _ ha h;exact⟨_,_,_,rfl,E,ha,h⟩
 |ret=>intro K E df H tm _ _ ha h;exact⟨_,_,_,rfl,E,ha,h⟩
 |region ops=>intro K E df H tm hf ho ha h;exact zM ops E df H tm hf ho ha h
 | drawn pre tail=>
   intro K E df H tm hf ho ha h;simp only[aD.fits,Bool.and_eq_true]at hf;obtain⟨tm',e',h1,E',h2,h3⟩:=IZ pre E [] tm hf.1 ha h;rw[aN,h1];exact zM tail E' df _ tm' hf.2 ho h2 h3
 | seq a b iha ihb=>
   intro K E df H tm hf ho ha h;simp only[aD.fits,Bool.and_eq_true]at hf;obtain⟨e,fr,H',h1,E',h2,h3⟩:=iha _ E df H tm hf.1 (ho.imp id fun h=>by simp only[aD.iQ,Bool.and_eq_true]at h;exact h.1) ha h;rw[aN,h1]
   cases e with
   |normal=>exact ihb K E' fr.df H' fr.tm hf.2 (ho.imp id fun h=>by simp only[aD.iQ,Bool.and_eq_true]at h;exact h.2) h2 h3
   |_=>exact⟨_,_,_,rfl,E',h2,h3⟩
 | cond x a b iha ihb=>
   intro K E df H tm hf ho ha h;simp only[aD.fits,Bool.and_eq_true]at hf;rw[aN];simp only[iD,ha.2];rw[wpc]at h;split at h
   . rename_i hv;rw[hv];exact iha K E df H tm hf.1 (ho.imp id fun h=>by simp only[aD.iQ,Bool.and_eq_true]at h;exact h.1) ha h
   . rename_i hv;rw[hv];exact ihb K E df H tm hf.2 (ho.imp id fun h=>by simp only[aD.iQ,Bool.and_eq_true]at h;exact h.2) ha h
   . exact h.elim
 | block id a ih=>
   intro K E df H tm hf ho ha h;obtain⟨e,fr,H',h1,E',h2,h3⟩:=ih _ E df H tm hf ho ha h;rw[aN,h1]
   cases e with
   | exit id'=>
     simp only at h3 ⊢;split at h3
     . rename_i hv;rw[if_pos hv];exact⟨_,_,_,rfl,E',h2,h3⟩
     . rename_i hv;rw[if_neg hv];exact⟨_,_,_,rfl,E',h2,h3⟩
   |_=>exact⟨_,_,_,rfl,E',h2,h3⟩
 | loop a ih=>
   intro K E df H tm hf ho ha h;obtain⟨e,fr,H',h1,E',h2,h3⟩:=ih _ E df H tm hf ho ha h;rw[aN,h1]
   cases e with
   |normal=>exact h3 fr.tm h2
   |_=>exact⟨_,_,_,rfl,E',h2,h3⟩
 | scope a ih=>
   intro K E df H tm hf ho ha h;obtain⟨e,fr,H',h1,E',h2,h3⟩:=ih _ E df H tm hf ho ha h;rw[aN,h1]
   cases e with
   | goto l=>
     simp only at h3 ⊢;split at h3
     . rename_i hv;rw[hv];exact h3 fr.tm h2
     . rename_i hv;rw[hv];exact⟨_,_,_,rfl,E',h2,h3⟩
   |_=>exact⟨_,_,_,rfl,E',h2,h3⟩
 | b9 w a ihw ih=>
   intro K E df H tm hf ho ha h;simp only[aD.fits,Bool.and_eq_true]at hf;obtain⟨e,fr,H',h1,E',h2,h3⟩:=ih _ E df H tm hf.2 (ho.imp id fun h=>by simp only[aD.iQ,Bool.and_eq_true]at h;exact h.2) ha h;rw[aN,h1]
   cases e with
   | goto l=>
     simp only at h3 ⊢;split at h3
     . rename_i hv;rw[hv];exact h3 fr.tm h2
     . rename_i hv;rw[hv];exact⟨_,_,_,rfl,E',h2,h3⟩
   |_=>exact⟨_,_,_,rfl,E',h2,h3⟩
 | range x ps as bd=>
   intro K E df H tm _ _ ha h;unfold aN;simp only[iD,ha.2];unfold wpc yV at h;have h:=h tm ha
   cases rd with
   | none=>
     simp only at h ⊢;split at h
     . rename_i f caps hx;rw[hx];simp only;split at h
       . rename_i v H2 hic;rw[hic];simp only;split at h
         . rename_i st pend tm' ps' as' bd' hrl;rw[hrl];obtain⟨k1,k2,k3⟩:=h;simp only;rw[if_neg (by simp[k1,k2])];exact⟨_,_,_,rfl,E,ha,k3⟩
         . exact h.elim
       . exact h.elim
     . exact h.elim
   | some l=>
     simp only at h ⊢;split at h
     . rename_i id df1 H1 heq;split at heq
       . rename_i hrl0;cases heq;rw[hrl0];simp only;split at h
         . rename_i f caps hx;rw[hx];simp only;split at h
           . rename_i v H2 hic;rw[hic];simp only;split at h
             . rename_i st pend tm' ps' as' bd' hrl;rw[hrl];obtain⟨k1,k2,k3⟩:=h;simp only;rw[if_neg (by simp[k1,k2])];exact⟨_,_,_,rfl,E,ha,k3⟩
             . exact h.elim
           . exact h.elim
         . exact h.elim
       . cases heq
     . exact h.elim
theorem Ec {tab:FuncId->Option av} {rd:Option Nat} {n:Nat} {c:aD} {K:KP} {E:Env} {df:List ADf} {H:ab} (hf:c.fits n=true) (ho:rd=none∨c.iQ=true) (h:wpc (cbL tab) rd n c K E df H):ru (cbL tab) rd n c K E df H:=by
 intro tm ha;obtain⟨e,fr,H',h1,h2⟩:=od c K E df H tm hf ho ha h;exact⟨e,fr,H',DA h1,h2⟩
inductive Kt where
 |code (c:aD)
 |blk (id:Nat)
 |again (c:aD)
 |scp (w:aD)
def Ret (cb:CB) (rd:Option Nat) (n:Nat) (Q:KP):List Kt->KP
 |[],e,E,df,H=>Q e E df H
 | .code c::ks,.normal,E,df,H=>wpc cb rd n c (Ret cb rd n Q ks) E df H
 | .again c::ks,.normal,E,df,H=>ru cb rd n c (Ret cb rd n Q ks) E df H
 | .blk id::ks,.exit j,E,df,H=>if j=id then Ret cb rd n Q ks .normal E df H else Ret cb rd n Q ks (.exit j) E df H
 | .scp w::ks,.goto l,E,df,H=>match eZ w l with
   |some rest=>ru cb rd n (.b9 w rest) (Ret cb rd n Q ks) E df H
   |none=>Ret cb rd n Q ks (.goto l) E df H
 |_::ks,e,E,df,H=>Ret cb rd n Q ks e E df H
def RR (cb:CB) (rd:Option Nat) (n:Nat) (Q:KP) (ops:List ai) (ks:List Kt) (E:Env) (df:List ADf) (H:ab):Prop:=wpr cb (Ret cb rd n Q ks) ops E df H
section rules
variable {cb:CB} {rd:Option Nat} {n:Nat} {Q:KP} {ks:List Kt} {E:Env} {df:List ADf} {H:ab}
theorem BN {e:Ex}:Ret cb rd n Q [] e E df H=Q e E df H:=(rfl)
theorem yR:Ret cb rd n Q (.code .skip::ks) .normal E df H=Ret cb rd n Q ks .normal E df H:=(rfl)
theorem ta {l:Nat}:Ret cb rd n Q (.code (.label l)::ks) .normal E df H=Ret cb rd n Q ks .normal E df H:=(rfl)
theorem yI {id:Nat}:Ret cb rd n Q (.code (.exit id)::ks) .normal E df H=Ret cb rd n Q ks (.exit id) E df H:=(rfl)
theorem xh {l:Nat}:Ret cb rd n Q (.code (.goto l)::ks) .normal E df H=Ret cb rd n Q ks (.goto l) E df H:=(rfl)
theorem Ae:Ret cb rd n Q (.code .ret::ks) .normal E df H=Ret cb rd n Q ks .ret E df H:=(rfl)
theorem pE {ops:List ai}:Ret cb rd n Q (.code (.region ops)::ks) .normal E df H=RR cb rd n Q ops ks E df H:=(rfl)
theorem Br {a b:aD}:Ret cb rd n Q (.code (.seq a b)::ks) .normal E df H=Ret cb rd n Q (.code a:: .code b::ks) .normal E df H:=by
 show wpc cb rd n (.seq a b) _ E df H=wpc cb rd n a _ E df H
 rw[wpc];congr 1
 funext e E' df' H'
 cases e<;>rfl
theorem tT {a:aD} {id:Nat}:Ret cb rd n Q (.code (.block id a)::ks) .normal E df H=Ret cb rd n Q (.code a:: .blk id::ks) .normal E df H:=by
 show wpc cb rd n (.block id a) _ E df H=wpc cb rd n a _ E df H
 rw[wpc];congr 1
 funext e E' df' H'
 cases e<;>rfl
theorem eI {a:aD}:Ret cb rd n Q (.code (.loop a)::ks) .normal E df H=Ret cb rd n Q (.code a:: .again (.loop a)::ks) .normal E df H:=by
 show wpc cb rd n (.loop a) _ E df H=wpc cb rd n a _ E df H
 rw[wpc];congr 1
 funext e E' df' H'
 cases e<;>rfl
theorem sD {a:aD}:Ret cb rd n Q (.code (.scope a)::ks) .normal E df H=Ret cb rd n Q (.code a:: .scp a::ks) .normal E df H:=by
 show wpc cb rd n (.scope a) _ E df H=wpc cb rd n a _ E df H
 rw[wpc];congr 1
 funext e E' df' H'
 cases e<;>rfl
theorem oR {w a:aD}:Ret cb rd n Q (.code (.b9 w a)::ks) .normal E df H=Ret cb rd n Q (.code a:: .scp w::ks) .normal E df H:=by
 show wpc cb rd n (.b9 w a) _ E df H=wpc cb rd n a _ E df H
 rw[wpc];congr 1
 funext e E' df' H'
 cases e<;>rfl
def vB (v:AV) (a b:aD) (cb:CB) (rd:Option Nat) (n:Nat) (Q:KP) (ks:List Kt) (E:Env) (df:List ADf) (H:ab):Prop:=
 match v with
 | .bool true=>Ret cb rd n Q (.code a::ks) .normal E df H
 | .bool false=>Ret cb rd n Q (.code b::ks) .normal E df H
 |_=>False
theorem yE {x:X} {a b:aD}:Ret cb rd n Q (.code (.cond x a b)::ks) .normal E df H=vB (x.evE E) a b cb rd n Q ks E df H:=(rfl)
theorem rh {a b:aD}:vB (.bool true) a b cb rd n Q ks E df H=Ret cb rd n Q (.code a::ks) .normal E df H:=(rfl)
theorem oG {a b:aD}:vB (.bool false) a b cb rd n Q ks E df H=Ret cb rd n Q (.code b::ks) .normal E df H:=(rfl)
theorem wi {p:Prop} [Decidable p] {a b:aD} (h:p):vB (.bool (decide p)) a b cb rd n Q ks E df H=Ret cb rd n Q (.code a::ks) .normal E df H:=by
 rw[decide_eq_true h];rfl
theorem xt {p:Prop} [Decidable p] {a b:aD} (h:¬p):vB (.bool (decide p)) a b cb rd n Q ks E df H=Ret cb rd n Q (.code b::ks) .normal E df H:=by
 rw[decide_eq_false h];rfl
theorem kM {c:aD} {j:Nat}:Ret cb rd n Q (.code c::ks) (.exit j) E df H=Ret cb rd n Q ks (.exit j) E df H:=(rfl)
theorem kE {c:aD} {j:Nat}:Ret cb rd n Q (.code c::ks) (.goto j) E df H=Ret cb rd n Q ks (.goto j) E df H:=(rfl)
theorem mM {c:aD}:Ret cb rd n Q (.code c::ks) .ret E df H=Ret cb rd n Q ks .ret E df H:=(rfl)
theorem jA {c:aD} {p:List (AV×Bool)}:Ret cb rd n Q (.code c::ks) (.panic p) E df H=Ret cb rd n Q ks (.panic p) E df H:=(rfl)
theorem jL {c:aD} {j:Nat}:Ret cb rd n Q (.again c::ks) (.exit j) E df H=Ret cb rd n Q ks (.exit j) E df H:=(rfl)
theorem jB {c:aD} {j:Nat}:Ret cb rd n Q (.again c::ks) (.goto j) E df H=Ret cb rd n Q ks (.goto j) E df H:=(rfl)
theorem kQ {c:aD}:Ret cb rd n Q (.again c::ks) .ret E df H=Ret cb rd n Q ks .ret E df H:=(rfl)
theorem js {c:aD} {p:List (AV×Bool)}:Ret cb rd n Q (.again c::ks) (.panic p) E df H=Ret cb rd n Q ks (.panic p) E df H:=(rfl)
theorem jH {id:Nat}:Ret cb rd n Q (.blk id::ks) .normal E df H=Ret cb rd n Q ks .normal E df H:=(rfl)
theorem mH {id j:Nat}:Ret cb rd n Q (.blk id::ks) (.exit j) E df H=if j=id then Ret cb rd n Q ks .normal E df H else Ret cb rd n Q ks (.exit j) E df H:=(rfl)
theorem l6 {id j:Nat}:Ret cb rd n Q (.blk id::ks) (.goto j) E df H=Ret cb rd n Q ks (.goto j) E df H:=(rfl)
theorem oz {id:Nat}:Ret cb rd n Q (.blk id::ks) .ret E df H=Ret cb rd n Q ks .ret E df H:=(rfl)
theorem kL {id:Nat} {p:List (AV×Bool)}:Ret cb rd n Q (.blk id::ks) (.panic p) E df H=Ret cb rd n Q ks (.panic p) E df H:=(rfl)
theorem jD {w:aD}:Ret cb rd n Q (.scp w::ks) .normal E df H=Ret cb rd n Q ks .normal E df H:=(rfl)
theorem mD {w:aD} {j:Nat}:Ret cb rd n Q (.scp w::ks) (.exit j) E df H=Ret cb rd n Q ks (.exit j) E df H:=(rfl)
theorem oE {w:aD}:Ret cb rd n Q (.scp w::ks) .ret E df H=Ret cb rd n Q ks .ret E df H:=(rfl)
theorem kC {w:aD} {p:List (AV×Bool)}:Ret cb rd n Q (.scp w::ks) (.panic p) E df H=Ret cb rd n Q ks (.panic p) E df H:=(rfl)
theorem gD {w rest:aD} {l:Nat} (h:eZ w l=some rest):Ret cb rd n Q (.scp w::ks) (.goto l) E df H=Ret cb rd n Q (.again (.b9 w rest)::ks) .normal E df H:=by
 show(match eZ w l with|some rest=>ru cb rd n (.b9 w rest) (Ret cb rd n Q ks) E df H|none=>Ret cb rd n Q ks (.goto l) E df H)=_
 rw[h];rfl
theorem fR {tab:FuncId->Option av} {c:aD} (hf:c.fits n=true) (ho:rd=none∨c.iQ=true) (h:Ret (cbL tab) rd n Q (.code c::ks) .normal E df H):Ret (cbL tab) rd n Q (.again c::ks) .normal E df H:=Ec hf ho h
theorem aR {tab:FuncId->Option av} {α:Type} (P:α->Env->List ADf->ab->Prop) (m:α->Nat) (a0:α) {a:aD} (hf:a.fits n=true) (ho:rd=none∨a.iQ=true) (h0:P a0 E df H)
   (step:∀x E df H,(∀y E' df' H',m y<m x->P y E' df' H'->Ret (cbL tab) rd n Q (.again (.loop a)::ks) .normal E' df' H')->P x E df H->Ret (cbL tab) rd n Q (.code a:: .again (.loop a)::ks) .normal E df H):
   Ret (cbL tab) rd n Q (.code (.loop a)::ks) .normal E df H:=by
 have key:∀k x E df H,m x<k->P x E df H->Ret (cbL tab) rd n Q (.code (.loop a)::ks) .normal E df H:=by
   intro k
   induction k with
   |zero=>intro x E df H h;omega
   | succ k ih=>
     intro x E df H hx hp;rw[eI];exact step x E df H (fun y E' df' H' hy hp'=>fR hf ho (ih y E' df' H' (by omega) hp')) hp
 exact key _ a0 E df H (Nat.lt_succ_self _) h0
theorem Ir:RR cb rd n Q [] ks E df H=Ret cb rd n Q ks .normal E df H:=(rfl)
def dJ (o:Option AV) (d:Option Nat) (rest:List ai) (cb:CB) (rd:Option Nat) (n:Nat) (Q:KP) (ks:List Kt) (E:Env) (df:List ADf) (H:ab):Prop:=
 match o with
 |some v=>RR cb rd n Q rest ks (cM E d v) df H
 |none=>False
theorem tH {v:AV} {d:Option Nat} {rest:List ai}:dJ (some v) d rest cb rd n Q ks E df H=RR cb rd n Q rest ks (cM E d v) df H:=(rfl)
def uB (o:Option (Out×ab)) (d:Option Nat) (rest:List ai) (cb:CB) (rd:Option Nat) (n:Nat) (Q:KP) (ks:List Kt) (E:Env) (df:List ADf):Prop:=
 match o with
 |some (.ret v,H')=>RR cb rd n Q rest ks (cM E d v) df H'
 |some (.pan c,H')=>Ret cb rd n Q ks (.panic c) E df H'
 |none=>False
theorem xT {v:AV} {H':ab} {d:Option Nat} {rest:List ai}:uB (some (.ret v,H')) d rest cb rd n Q ks E df=RR cb rd n Q rest ks (cM E d v) df H':=(rfl)
theorem yy {c:List (AV×Bool)} {H':ab} {d:Option Nat} {rest:List ai}:uB (some (.pan c,H')) d rest cb rd n Q ks E df=Ret cb rd n Q ks (.panic c) E df H':=(rfl)
def eQ (o:Option (Nx×ab)) (d:Option Nat) (rest:List ai) (cb:CB) (rd:Option Nat) (n:Nat) (Q:KP) (ks:List Kt) (E:Env) (df:List ADf):Prop:=
 match o with
 |some (.val v,H')=>RR cb rd n Q rest ks (cM E d v) df H'
 |some (.skip,H')=>RR cb rd n Q rest ks (cM E d (.tup [])) df H'
 |some (.enter f args,H')=>uB (dY cb f args H') d rest cb rd n Q ks E df
 |some (.dR rw f args,H')=>uB (eL cb rw f args H') d rest cb rd n Q ks E df
 |some (.yield id args,H')=>uB (cb.yl id args H') d rest cb rd n Q ks E df
 |some (.pan v,H')=>Ret cb rd n Q ks (.panic [(v,false)]) E df H'
 |some (.dfr q,H')=>RR cb rd n Q rest ks (cM E d (.tup [])) (q::df) H'
 |_=>False
theorem mF {v:AV} {H':ab} {d:Option Nat} {rest:List ai}:eQ (some (.val v,H')) d rest cb rd n Q ks E df=RR cb rd n Q rest ks (cM E d v) df H':=(rfl)
theorem s5 {H':ab} {d:Option Nat} {rest:List ai}:eQ (some (.skip,H')) d rest cb rd n Q ks E df=RR cb rd n Q rest ks (cM E d (.tup [])) df H':=(rfl)
def xv (o:Option PR) (f:FuncId) (args:List AV) (H':ab) (d:Option Nat) (rest:List ai) (cb:CB) (rd:Option Nat) (n:Nat) (Q:KP) (ks:List Kt) (E:Env) (df:List ADf):Prop:=
 uB (match o with
   |some (.plain v)=>some (.ret v,H')
   |some (.fresh sz n cs)=>some (.ret (.sl sz n cs (.own H'.length)),H'++[.tok sz])
   |some (.iO es)=>some (.ret (.mp H'.length),H'++[.map es])
   |some (.pan c)=>some (.pan c,H')
   |some (.qy _)=>none
   |none=>if cb.cC f then none else cb.ic f args H') d rest cb rd n Q ks E df
theorem rM {f:FuncId} {args:List AV} {H':ab} {d:Option Nat} {rest:List ai}:eQ (some (.enter f args,H')) d rest cb rd n Q ks E df=xv (pcx cb f args H') f args H' d rest cb rd n Q ks E df:=(rfl)
theorem kW {v:AV} {f:FuncId} {args:List AV} {H':ab} {d:Option Nat} {rest:List ai}:xv (some (.plain v)) f args H' d rest cb rd n Q ks E df=RR cb rd n Q rest ks (cM E d v) df H':=(rfl)
theorem k7 {sz n':Nat} {cs:List AV} {f:FuncId} {args:List AV} {H':ab} {d:Option Nat} {rest:List ai}:xv (some (.fresh sz n' cs)) f args H' d rest cb rd n Q ks E df=RR cb rd n Q rest ks (cM E d (.sl sz n' cs (.own H'.length))) df (H'++[.tok sz]):=(rfl)
theorem sB {es:List (AV×AV)} {f:FuncId} {args:List AV} {H':ab} {d:Option Nat} {rest:List ai}:xv (some (.iO es)) f args H' d rest cb rd n Q ks E df=RR cb rd n Q rest ks (cM E d (.mp H'.length)) df (H'++[.map es]):=(rfl)
theorem wO {c:List (AV×Bool)} {f:FuncId} {args:List AV} {H':ab} {d:Option Nat} {rest:List ai}:xv (some (.pan c)) f args H' d rest cb rd n Q ks E df=Ret cb rd n Q ks (.panic c) E df H':=(rfl)
theorem aI {f:FuncId} {args:List AV} {H':ab} {d:Option Nat} {rest:List ai} (hl:cb.cC f=false):xv none f args H' d rest cb rd n Q ks E df=uB (cb.ic f args H') d rest cb rd n Q ks E df:=by
 simp only[xv,hl,Bool.false_eq_true,if_false]
theorem oi {rw:Bool} {f:FuncId} {args:List AV} {H':ab} {d:Option Nat} {rest:List ai}:eQ (some (.dR rw f args,H')) d rest cb rd n Q ks E df=uB (eL cb rw f args H') d rest cb rd n Q ks E df:=(rfl)
theorem pT {id:Nat} {args:List AV} {H':ab} {d:Option Nat} {rest:List ai}:eQ (some (.yield id args,H')) d rest cb rd n Q ks E df=uB (cb.yl id args H') d rest cb rd n Q ks E df:=(rfl)
theorem xy {v:AV} {H':ab} {d:Option Nat} {rest:List ai}:eQ (some (.pan v,H')) d rest cb rd n Q ks E df=Ret cb rd n Q ks (.panic [(v,false)]) E df H':=(rfl)
theorem vy {q:ADf} {H':ab} {d:Option Nat} {rest:List ai}:eQ (some (.dfr q,H')) d rest cb rd n Q ks E df=RR cb rd n Q rest ks (cM E d (.tup [])) (q::df) H':=(rfl)
def AOp.pure:AOp->Bool
 | .mv _=>true
 | .pick _ _ _=>true
 | .build _ _=>true
 | .aY _ _ _ _=>true
 | .ir _ _ _ _=>true
 | .mm _ _ _=>true
 | .load _ _ _=>true
 | .fld _ _=>true
 | .part _ _ _ _=>true
 | .ixa _ _ _=>true
 | .bn _ _ _ _=>true
 | .ixv _ _ _ _ _=>true
 | .ixs _ _=>true
 | .bin _ _ _ _=>true
 | .un _ _=>true
 | .conv _ _=>true
 | .oh _ _=>true
 | .gf _ _=>true
 | .chk _ _=>true
 | .qG _=>true
 | .vN _ _ _ _=>true
 | .lookup _ _ _ _ _=>true
 | .ff _ _ _ _=>true
 | .ext _ _=>true
 | .slice _ _ _ _=>true
 | .fG _ _ _=>true
 | .oV _ _ _ _ _=>true
 | .len _ _=>true
 | .bg _=>true
 | .alloc _=>false
 | .box _=>false
 | .store _ _ _=>false
 | .jt=>false
 | .iL _ _ _ _=>false
 | .append _ _ _ _=>false
 | .iS _ _ _ _=>false
 | .fa _ _ _ _=>false
 | .bw _ _=>false
 | .jC _ _ _=>false
 | .ct _ _=>false
 | .fE=>false
 | .panic _=>false
 | .dfr _ _=>false
 | .fS _ _ _ _ _=>true
 | .jq _ _=>true
 | .rT _ _=>true
 | .uK _ _=>true
 | .oZ _ _ _ _=>false
 | .ja _ _ _ _ _=>false
 | .clr _ _ _=>false
 | .cpy _ _ _=>false
 | .mI _ _=>false
 | .rZ _=>false
 | .kT _ _ _ _ _=>true
 | .l7 _ _=>true
 | .e9 _ _ _ _ _=>false
 | .oF _ _ _ _=>false
 | .ui _ _ _ _ _=>false
theorem pN {K:KP} {d:Option Nat} {op:AOp} {rest:List ai}:wpr cb K (⟨d,op,none⟩::rest) E df H=
   match aA op E H with
     |some v=>wpr cb K rest (cM E d v) df H
     | none=>
       match a8 op E H with
       |some (.val v,H')=>wpr cb K rest (cM E d v) df H'
       |some (.skip,H')=>wpr cb K rest (cM E d (.tup [])) df H'
       | some (.enter f args,H')=>
         match dY cb f args H' with
         |some (.ret v,H'')=>wpr cb K rest (cM E d v) df H''
         |some (.pan c,H'')=>K (.panic c) E df H''
         |none=>False
       | some (.dR rw f args,H')=>
         match eL cb rw f args H' with
         |some (.ret v,H'')=>wpr cb K rest (cM E d v) df H''
         |some (.pan c,H'')=>K (.panic c) E df H''
         |none=>False
       | some (.yield id args,H')=>
         match cb.yl id args H' with
         |some (.ret v,H'')=>wpr cb K rest (cM E d v) df H''
         |some (.pan c,H'')=>K (.panic c) E df H''
         |none=>False
       |some (.pan v,H')=>K (.panic [(v,false)]) E df H'
       |some (.dfr q,H')=>wpr cb K rest (cM E d (.tup [])) (q::df) H'
       |_=>False:=by
 rw[wpr];simp only[de,if_true]
theorem bj {d:Option Nat} {op:AOp} {rest:List ai} (h:op.pure=true):RR cb rd n Q (⟨d,op,none⟩::rest) ks E df H=dJ (aA op E H) d rest cb rd n Q ks E df H:=by
 show wpr cb _ _ E df H=_
 rw[pN]
 cases hv:aA op E H with
 |some v=>rfl
 |none=>cases op<;>first|rfl|(cases h;done)|(cases hl;done)
theorem dC {d:Option Nat} {op:AOp} {rest:List ai} (h:op.pure=false):RR cb rd n Q (⟨d,op,none⟩::rest) ks E df H=eQ (a8 op E H) d rest cb rd n Q ks E df:=by
 show wpr cb _ _ E df H=_
 rw[pN]
 have hv:aA op E H=none:=by cases op<;>first|rfl|cases h
 rw[hv];simp only
 cases hx:a8 op E H with
 |none=>rfl
 | some q=>
   obtain⟨q,H'⟩:=q
   cases q with
   | enter f args=>
     simp only[eQ]
     cases hy:dY cb f args H' with
     |none=>rfl
     |some r=>obtain⟨r,H''⟩:=r;cases r<;>rfl
   | dR rw f args=>
     simp only[eQ]
     cases hy:eL cb rw f args H' with
     |none=>rfl
     |some r=>obtain⟨r,H''⟩:=r;cases r<;>rfl
   | yield f args=>
     simp only[eQ]
     cases hy:cb.yl f args H' with
     |none=>rfl
     |some r=>obtain⟨r,H''⟩:=r;cases r<;>rfl
   |_=>rfl
theorem Lk {x:X} {d:Option Nat} {rest:List ai}:RR cb rd n Q (⟨d,.mv x,none⟩::rest) ks E df H=dJ (aA (.mv x) E H) d rest cb rd n Q ks E df H:=bj rfl
theorem AW {c:X} {a:X} {b:X} {d:Option Nat} {rest:List ai}:RR cb rd n Q (⟨d,.pick c a b,none⟩::rest) ks E df H=dJ (aA (.pick c a b) E H) d rest cb rd n Q ks E df H:=bj rfl
theorem v7 {zs:List AV} {ps:List (Nat×Nat×X)} {d:Option Nat} {rest:List ai}:RR cb rd n Q (⟨d,.build zs ps,none⟩::rest) ks E df H=dJ (aA (.build zs ps) E H) d rest cb rd n Q ks E df H:=bj rfl
theorem tP {sz:Nat} {len:Nat} {zs:List AV} {ps:List (Nat×Nat×X)} {d:Option Nat} {rest:List ai}:RR cb rd n Q (⟨d,.ir sz len zs ps,none⟩::rest) ks E df H=dJ (aA (.ir sz len zs ps) E H) d rest cb rd n Q ks E df H:=bj rfl
theorem Lh {mx:Bool} {x:X} {y:X} {d:Option Nat} {rest:List ai}:RR cb rd n Q (⟨d,.mm mx x y,none⟩::rest) ks E df H=dJ (aA (.mm mx x y) E H) d rest cb rd n Q ks E df H:=bj rfl
theorem tD {sz:Nat} {len:Nat} {zs:List AV} {ps:List (Nat×Nat×X)} {d:Option Nat} {rest:List ai}:RR cb rd n Q (⟨d,.aY sz len zs ps,none⟩::rest) ks E df H=dJ (aA (.aY sz len zs ps) E H) d rest cb rd n Q ks E df H:=bj rfl
theorem Bp {sz:Nat} {ag:Bool} {x:X} {d:Option Nat} {rest:List ai}:RR cb rd n Q (⟨d,.load sz ag x,none⟩::rest) ks E df H=dJ (aA (.load sz ag x) E H) d rest cb rd n Q ks E df H:=bj rfl
theorem Iq {off:Nat} {x:X} {d:Option Nat} {rest:List ai}:RR cb rd n Q (⟨d,.fld off x,none⟩::rest) ks E df H=dJ (aA (.fld off x) E H) d rest cb rd n Q ks E df H:=bj rfl
theorem Av {off:Nat} {sz:Nat} {ag:Bool} {x:X} {d:Option Nat} {rest:List ai}:RR cb rd n Q (⟨d,.part off sz ag x,none⟩::rest) ks E df H=dJ (aA (.part off sz ag x) E H) d rest cb rd n Q ks E df H:=bj rfl
theorem GJ {sz:Nat} {x:X} {i:X} {d:Option Nat} {rest:List ai}:RR cb rd n Q (⟨d,.ixa sz x i,none⟩::rest) ks E df H=dJ (aA (.ixa sz x i) E H) d rest cb rd n Q ks E df H:=bj rfl
theorem wS {n0:Nat} {sz:Nat} {x:X} {i:X} {d:Option Nat} {rest:List ai}:RR cb rd n Q (⟨d,.bn n0 sz x i,none⟩::rest) ks E df H=dJ (aA (.bn n0 sz x i) E H) d rest cb rd n Q ks E df H:=bj rfl
theorem FR {n0:Nat} {sz:Nat} {ag:Bool} {x:X} {i:X} {d:Option Nat} {rest:List ai}:RR cb rd n Q (⟨d,.ixv n0 sz ag x i,none⟩::rest) ks E df H=dJ (aA (.ixv n0 sz ag x i) E H) d rest cb rd n Q ks E df H:=bj rfl
theorem Hb {x:X} {i:X} {d:Option Nat} {rest:List ai}:RR cb rd n Q (⟨d,.ixs x i,none⟩::rest) ks E df H=dJ (aA (.ixs x i) E H) d rest cb rd n Q ks E df H:=bj rfl
theorem H8 {op:BinOp} {ek:EqK} {x:X} {y:X} {d:Option Nat} {rest:List ai}:RR cb rd n Q (⟨d,.bin op ek x y,none⟩::rest) ks E df H=dJ (aA (.bin op ek x y) E H) d rest cb rd n Q ks E df H:=bj rfl
theorem Lp {uop:UnOp} {x:X} {d:Option Nat} {rest:List ai}:RR cb rd n Q (⟨d,.un uop x,none⟩::rest) ks E df H=dJ (aA (.un uop x) E H) d rest cb rd n Q ks E df H:=bj rfl
theorem BF {cv:CvK} {x:X} {d:Option Nat} {rest:List ai}:RR cb rd n Q (⟨d,.conv cv x,none⟩::rest) ks E df H=dJ (aA (.conv cv x) E H) d rest cb rd n Q ks E df H:=bj rfl
theorem AA {ty:TypeId} {x:X} {d:Option Nat} {rest:List ai}:RR cb rd n Q (⟨d,.oh ty x,none⟩::rest) ks E df H=dJ (aA (.oh ty x) E H) d rest cb rd n Q ks E df H:=bj rfl
theorem AH {f:FuncId} {xs:List X} {d:Option Nat} {rest:List ai}:RR cb rd n Q (⟨d,.gf f xs,none⟩::rest) ks E df H=dJ (aA (.gf f xs) E H) d rest cb rd n Q ks E df H:=bj rfl
theorem sL {kk:Nat} {zero:AV} {x:X} {i:X} {ok:Bool} {d:Option Nat} {rest:List ai}:RR cb rd n Q (⟨d,.lookup kk zero x i ok,none⟩::rest) ks E df H=dJ (aA (.lookup kk zero x i ok) E H) d rest cb rd n Q ks E df H:=bj rfl
theorem pL {ty:TypeId} {zero:AV} {x:X} {ok:Bool} {d:Option Nat} {rest:List ai}:RR cb rd n Q (⟨d,.ff ty zero x ok,none⟩::rest) ks E df H=dJ (aA (.ff ty zero x ok) E H) d rest cb rd n Q ks E df H:=bj rfl
theorem Io {x:X} {j:Nat} {d:Option Nat} {rest:List ai}:RR cb rd n Q (⟨d,.ext x j,none⟩::rest) ks E df H=dJ (aA (.ext x j) E H) d rest cb rd n Q ks E df H:=bj rfl
theorem v8 {sz:Nat} {x:X} {lo:Option X} {hi:Option X} {d:Option Nat} {rest:List ai}:RR cb rd n Q (⟨d,.slice sz x lo hi,none⟩::rest) ks E df H=dJ (aA (.slice sz x lo hi) E H) d rest cb rd n Q ks E df H:=bj rfl
theorem AT {sz:Nat} {x:X} {lo:Option X} {hi:Option X} {mx:Option X} {d:Option Nat} {rest:List ai}:RR cb rd n Q (⟨d,.oV sz x lo hi mx,none⟩::rest) ks E df H=dJ (aA (.oV sz x lo hi mx) E H) d rest cb rd n Q ks E df H:=bj rfl
theorem v5 {x:X} {lo:Option X} {hi:Option X} {d:Option Nat} {rest:List ai}:RR cb rd n Q (⟨d,.fG x lo hi,none⟩::rest) ks E df H=dJ (aA (.fG x lo hi) E H) d rest cb rd n Q ks E df H:=bj rfl
theorem Ih {k:Nat} {x:X} {d:Option Nat} {rest:List ai}:RR cb rd n Q (⟨d,.len k x,none⟩::rest) ks E df H=dJ (aA (.len k x) E H) d rest cb rd n Q ks E df H:=bj rfl
theorem w7 {x:X} {d:Option Nat} {rest:List ai}:RR cb rd n Q (⟨d,.bg x,none⟩::rest) ks E df H=dJ (aA (.bg x) E H) d rest cb rd n Q ks E df H:=bj rfl
theorem w6 {zs:List AV} {d:Option Nat} {rest:List ai}:RR cb rd n Q (⟨d,.alloc zs,none⟩::rest) ks E df H=eQ (a8 (.alloc zs) E H) d rest cb rd n Q ks E df:=dC rfl
theorem Ek {x:X} {d:Option Nat} {rest:List ai}:RR cb rd n Q (⟨d,.box x,none⟩::rest) ks E df H=eQ (a8 (.box x) E H) d rest cb rd n Q ks E df:=dC rfl
theorem xK {sz:Nat} {a:X} {v:X} {d:Option Nat} {rest:List ai}:RR cb rd n Q (⟨d,.store sz a v,none⟩::rest) ks E df H=eQ (a8 (.store sz a v) E H) d rest cb rd n Q ks E df:=dC rfl
theorem x7 {d:Option Nat} {rest:List ai}:RR cb rd n Q (⟨d,.jt,none⟩::rest) ks E df H=eQ (a8 (.jt) E H) d rest cb rd n Q ks E df:=dC rfl
theorem xS {kk:Nat} {x:X} {k:X} {v:X} {d:Option Nat} {rest:List ai}:RR cb rd n Q (⟨d,.iL kk x k v,none⟩::rest) ks E df H=eQ (a8 (.iL kk x k v) E H) d rest cb rd n Q ks E df:=dC rfl
theorem wB {sz m:Nat} {cs:List AV} {tk:Tk}:rowOf H (.sl sz m cs tk)= .sl sz m cs tk:=rfl
theorem tC {sz:Nat} {bytes:Nat} {x:X} {y:X} {d:Option Nat} {rest:List ai}:RR cb rd n Q (⟨d,.append sz bytes x y,none⟩::rest) ks E df H=eQ (fQ sz bytes (x.evE E) (rowOf H (y.evE E)) H) d rest cb rd n Q ks E df:=dC rfl
def AL (sz bytes:Nat) (zs:List AV) (x n:AV) (H:ab):Option (Nx×ab):=
 match x,gd sz bytes zs n n with
 | .sl sz' k cs (.own g),some m=>fQ sz bytes (.sl sz' k cs (.own g)) (.sl sz m (cf m zs) .ro) H
 | .rsl sz' id k,some m=>jx sz bytes (.rsl sz' id k) (.sl sz m (cf m zs) .ro) H
 |_,_=>none
theorem pU {sz:Nat} {bytes:Nat} {x:X} {y:X} {d:Option Nat} {rest:List ai}:RR cb rd n Q (⟨d,.fa sz bytes x y,none⟩::rest) ks E df H=eQ (jx sz bytes (x.evE E) (y.evE E) H) d rest cb rd n Q ks E df:=dC rfl
theorem Bo {sz:Nat} {bytes:Nat} {zs:List AV} {x:X} {y:X} {d:Option Nat} {rest:List ai}:RR cb rd n Q (⟨d,.ui sz bytes zs x y,none⟩::rest) ks E df H=eQ (AL sz bytes zs (x.evE E) (y.evE E) H) d rest cb rd n Q ks E df:=dC rfl
theorem xm {sz len:Nat} {zs:List AV} {ps:List (Nat×Nat×X)} {d:Option Nat} {rest:List ai}:RR cb rd n Q (⟨d,.oF sz len zs ps,none⟩::rest) ks E df H=eQ (a8 (.oF sz len zs ps) E H) d rest cb rd n Q ks E df:=dC rfl
theorem oK {sz:Nat} {bytes:Nat} {zs:List AV} {x:X} {y:X} {d:Option Nat} {rest:List ai}:RR cb rd n Q (⟨d,.e9 sz bytes zs x y,none⟩::rest) ks E df H=eQ (a8 (.e9 sz bytes zs x y) E H) d rest cb rd n Q ks E df:=dC rfl
theorem pM {sz:Nat} {bytes:Nat} {zs:List AV} {x:X} {y:X} {d:Option Nat} {rest:List ai}:RR cb rd n Q (⟨d,.fS sz bytes zs x y,none⟩::rest) ks E df H=dJ (aA (.fS sz bytes zs x y) E H) d rest cb rd n Q ks E df H:=bj rfl
theorem AM {sz bytes:Nat} {x y:X} {d:Option Nat} {rest:List ai}:RR cb rd n Q (⟨d,.vN sz bytes x y,none⟩::rest) ks E df H=dJ (aA (.vN sz bytes x y) E H) d rest cb rd n Q ks E df H:=bj rfl
theorem z7 {x:X} {d:Option Nat} {rest:List ai}:RR cb rd n Q (⟨d,.qG x,none⟩::rest) ks E df H=dJ (aA (.qG x) E H) d rest cb rd n Q ks E df H:=bj rfl
theorem DG {lx sx:List X} {d:Option Nat} {rest:List ai}:RR cb rd n Q (⟨d,.chk lx sx,none⟩::rest) ks E df H=dJ (aA (.chk lx sx) E H) d rest cb rd n Q ks E df H:=bj rfl
theorem yJ {id:Nat}:kx id []=true:=rfl
theorem vF {id id' o:Nat} {r:List AV} (h:id'≠id):kx id (.ptr id' o::r)=kx id r:=by simp[kx,h]
theorem qv {ss:List AV}:cr [] ss=true:=by cases ss<;>rfl
theorem xq {cs r ss:List AV}:cr (.bX cs::r) ss=cr r ss:=by cases ss<;>rfl
theorem xR {id o:Nat} {r ss:List AV} (h:kx id ss=true):cr (.ptr id o::r) ss=cr r ss:=by cases ss<;>simp[cr,h]
theorem vx {f:FuncId} {xs:List X} {d:Option Nat} {rest:List ai}:RR cb rd n Q (⟨d,.jq f xs,none⟩::rest) ks E df H=dJ (aA (.jq f xs) E H) d rest cb rd n Q ks E df H:=bj rfl
theorem yN {n0 sz:Nat} {x:X} {lo hi:Option X} {d:Option Nat} {rest:List ai}:RR cb rd n Q (⟨d,.kT n0 sz x lo hi,none⟩::rest) ks E df H=dJ (aA (.kT n0 sz x lo hi) E H) d rest cb rd n Q ks E df H:=bj rfl
theorem xz {n0:Nat} {x:X} {d:Option Nat} {rest:List ai}:RR cb rd n Q (⟨d,.l7 n0 x,none⟩::rest) ks E df H=dJ (aA (.l7 n0 x) E H) d rest cb rd n Q ks E df H:=bj rfl
theorem Hv {sz:Nat} {zs:List AV} {x:X} {d:Option Nat} {rest:List ai}:RR cb rd n Q (⟨d,.clr sz zs x,none⟩::rest) ks E df H=eQ (a8 (.clr sz zs x) E H) d rest cb rd n Q ks E df:=dC rfl
theorem HD {sz:Nat} {x y:X} {d:Option Nat} {rest:List ai}:RR cb rd n Q (⟨d,.cpy sz x y,none⟩::rest) ks E df H=eQ (a8 (.cpy sz x y) E H) d rest cb rd n Q ks E df:=dC rfl
theorem A7 {x y:X} {d:Option Nat} {rest:List ai}:RR cb rd n Q (⟨d,.uK x y,none⟩::rest) ks E df H=dJ (aA (.uK x y) E H) d rest cb rd n Q ks E df H:=bj rfl
theorem Bx {x y:X} {d:Option Nat} {rest:List ai}:RR cb rd n Q (⟨d,.rT x y,none⟩::rest) ks E df H=dJ (aA (.rT x y) E H) d rest cb rd n Q ks E df H:=bj rfl
theorem qJ {sz:Nat} {bytes:Nat} {x:X} {y:X} {d:Option Nat} {rest:List ai}:RR cb rd n Q (⟨d,.iS sz bytes x y,none⟩::rest) ks E df H=eQ (a8 (.iS sz bytes x y) E H) d rest cb rd n Q ks E df:=dC rfl
theorem yd {f:FuncId} {xs:List X} {d:Option Nat} {rest:List ai}:RR cb rd n Q (⟨d,.bw f xs,none⟩::rest) ks E df H=eQ (a8 (.bw f xs) E H) d rest cb rd n Q ks E df:=dC rfl
theorem yu {rw:Bool} {f:FuncId} {xs:List X} {d:Option Nat} {rest:List ai}:RR cb rd n Q (⟨d,.jC rw f xs,none⟩::rest) ks E df H=eQ (a8 (.jC rw f xs) E H) d rest cb rd n Q ks E df:=dC rfl
theorem yc {x:X} {xs:List X} {d:Option Nat} {rest:List ai}:RR cb rd n Q (⟨d,.ct x xs,none⟩::rest) ks E df H=eQ (a8 (.ct x xs) E H) d rest cb rd n Q ks E df:=dC rfl
theorem xZ {d:Option Nat} {rest:List ai}:RR cb rd n Q (⟨d,.fE,none⟩::rest) ks E df H=eQ (a8 (.fE) E H) d rest cb rd n Q ks E df:=dC rfl
theorem xU {x:X} {d:Option Nat} {rest:List ai}:RR cb rd n Q (⟨d,.panic x,none⟩::rest) ks E df H=eQ (a8 (.panic x) E H) d rest cb rd n Q ks E df:=dC rfl
theorem Ew {x:X} {xs:List X} {d:Option Nat} {rest:List ai}:RR cb rd n Q (⟨d,.dfr x xs,none⟩::rest) ks E df H=eQ (a8 (.dfr x xs) E H) d rest cb rd n Q ks E df:=dC rfl
def r8 (v:AV) (b:Bool) (d:Option Nat) (op:AOp) (rest:List ai) (cb:CB) (rd:Option Nat) (n:Nat) (Q:KP) (ks:List Kt) (E:Env) (df:List ADf) (H:ab):Prop:=
 match v with
 | .bool b'=>if b'=b then RR cb rd n Q (⟨d,op,none⟩::rest) ks E df H else RR cb rd n Q rest ks (cM E d (.tup [])) df H
 |_=>RR cb rd n Q rest ks (cM E d (.tup [])) df H
theorem xY {t:Nat} {b:Bool} {d:Option Nat} {op:AOp} {rest:List ai}:RR cb rd n Q (⟨d,op,some (t,b)⟩::rest) ks E df H=r8 (E t) b d op rest cb rd n Q ks E df H:=by
 show wpr cb _ _ E df H=_
 cases ht:E t with
 | bool b'=>
   by_cases hb:b'=b
   . show _=(if b'=b then RR cb rd n Q (⟨d,op,none⟩::rest) ks E df H else _)
     rw[if_pos hb];show _=wpr cb _ _ E df H
     rw[wpr,pN];simp only[de,ht,hb,beq_self_eq_true,if_true]
   . show _=(if b'=b then _ else RR cb rd n Q rest ks (cM E d (.tup [])) df H)
     rw[if_neg hb,wpr];simp only[de,ht,beq_eq_false_iff_ne.2 hb,Bool.false_eq_true,if_false];rfl
 | _=>
   rw[wpr];simp only[de,ht,Bool.false_eq_true,if_false];rfl
theorem By {d:Option Nat} {op:AOp} {rest:List ai}:r8 (.bool true) true d op rest cb rd n Q ks E df H=RR cb rd n Q (⟨d,op,none⟩::rest) ks E df H:=(rfl)
theorem Ab {d:Option Nat} {op:AOp} {rest:List ai}:r8 (.bool false) false d op rest cb rd n Q ks E df H=RR cb rd n Q (⟨d,op,none⟩::rest) ks E df H:=(rfl)
theorem AI {d:Option Nat} {op:AOp} {rest:List ai}:r8 (.bool true) false d op rest cb rd n Q ks E df H=RR cb rd n Q rest ks (cM E d (.tup [])) df H:=(rfl)
theorem Af {d:Option Nat} {op:AOp} {rest:List ai}:r8 (.bool false) true d op rest cb rd n Q ks E df H=RR cb rd n Q rest ks (cM E d (.tup [])) df H:=(rfl)
section
variable {p:Prop} [Decidable p]
theorem xl {d:Option Nat} {op:AOp} {rest:List ai} (h:p):r8 (.bool (decide p)) true d op rest cb rd n Q ks E df H=RR cb rd n Q (⟨d,op,none⟩::rest) ks E df H:=by rw[decide_eq_true h];rfl
theorem xC {d:Option Nat} {op:AOp} {rest:List ai} (h:¬p):r8 (.bool (decide p)) false d op rest cb rd n Q ks E df H=RR cb rd n Q (⟨d,op,none⟩::rest) ks E df H:=by rw[decide_eq_false h];rfl
theorem wE {d:Option Nat} {op:AOp} {rest:List ai} (h:p):r8 (.bool (decide p)) false d op rest cb rd n Q ks E df H=RR cb rd n Q rest ks (cM E d (.tup [])) df H:=by rw[decide_eq_true h];rfl
theorem xi {d:Option Nat} {op:AOp} {rest:List ai} (h:¬p):r8 (.bool (decide p)) true d op rest cb rd n Q ks E df H=RR cb rd n Q rest ks (cM E d (.tup [])) df H:=by rw[decide_eq_false h];rfl
end
def RP (cb:CB) (rd:Option Nat) (n:Nat) (Q:KP) (pre tail:List ai) (e:List aj) (ks:List Kt) (E:Env) (df:List ADf) (H:ab):Prop:=
 zH cb H (fun E' e=>wpr cb (Ret cb rd n Q ks) tail E' df (H++e)) pre E e
theorem sS {pre tail:List ai}:Ret cb rd n Q (.code (.drawn pre tail)::ks) .normal E df H=RP cb rd n Q pre tail [] ks E df H:=(rfl)
theorem sZ (H:ab):mY H []=H:=List.append_nil H
theorem ry (H:ab) (g:aj) (e:List aj):mY H (g::e)=H++(g::e):=(rfl)
theorem EK {tail:List ai} {e:List aj}:RP cb rd n Q [] tail e ks E df H=RR cb rd n Q tail ks E df (mY H e):=(rfl)
def Ai (o:Option (AV×Option aj)) (q:Option Nat) (d:Option Nat) (rest tail:List ai) (e:List aj) (cb:CB) (rd:Option Nat) (n:Nat) (Q:KP) (ks:List Kt) (E:Env) (df:List ADf) (H:ab):Prop:=
 match o with
 |some (v,k)=>RP cb rd n Q rest tail (kD H.length q (e++k.toList)) ks (cM E d v) df H
 |none=>False
theorem BJ {o:ai} {rest tail:List ai} {e:List aj}:RP cb rd n Q (o::rest) tail e ks E df H=Ai (cm cb H (mY H e) o E (H.length+e.length)) (qO o E) o.dst rest tail e cb rd n Q ks E df H:=by
 show zH cb H _ (o::rest) E e=_
 rw[zH]
 cases cm cb H (mY H e) o E (H.length+e.length)with
 |none=>rfl
 |some q=>rfl
theorem x6 {d:Option Nat} {op:AOp} {g:Option (Nat×Bool)}:qO ⟨d,op,g⟩ E=(match op with
 | .ja _ _ _ x _=>if de E g then(match x.evE E with
   | .sl _ _ _ (.own g0)=>some g0
   |_=>none)else none
 |_=>none):=(rfl)
theorem oM {v:AV} {d:Option Nat} {rest tail:List ai} {e:List aj}:Ai (some (v,none)) none d rest tail e cb rd n Q ks E df H=RP cb rd n Q rest tail e ks (cM E d v) df H:=by
 show RP cb rd n Q rest tail (e++[]) ks _ df H=_
 rw[List.append_nil]
theorem oP {v:AV} {k:aj} {d:Option Nat} {rest tail:List ai} {e:List aj}:Ai (some (v,some k)) none d rest tail e cb rd n Q ks E df H=RP cb rd n Q rest tail (e++[k]) ks (cM E d v) df H:=(rfl)
theorem qC {v:AV} {k:aj} {g0:Nat} {d:Option Nat} {rest tail:List ai} {e:List aj}:Ai (some (v,some k)) (some g0) d rest tail e cb rd n Q ks E df H=RP cb rd n Q rest tail ((e++[k]).set (g0-H.length) .dead) ks (cM E d v) df H:=(rfl)
def prW (o:Option PR) (g:Nat):Option (AV×Option aj):=
 match o with
 |some (.fresh sz n cs)=>if cs.all (·.lz)&&cs.length==n*sz then some (.msl sz g 0 n,some (.cells cs))else none
 |_=>none
theorem xd {G:ab} {f:FuncId} {args:List X} {d:Option Nat} {g:Nat}:cm cb H G ⟨d,.mI f args,none⟩ E g=prW (pcx cb f (args.map (·.evE E)) H) g:=(rfl)
theorem AU {G:ab} {x:X} {d:Option Nat} {g:Nat}:cm cb H G ⟨d,.rZ x,none⟩ E g=if aw (x.evE E).flat then some (.ptr g 0,some (.cells (x.evE E).flat))else none:=(rfl)
theorem Bt {G:ab} {sz bytes:Nat} {x y:X} {d:Option Nat} {g:Nat}:cm cb H G ⟨d,.oZ sz bytes x y,none⟩ E g=lj sz bytes (x.evE E) (y.evE E) g:=(rfl)
theorem An {G:ab} {sz bytes:Nat} {zs:List AV} {x y:X} {d:Option Nat} {g:Nat}:cm cb H G ⟨d,.ja sz bytes zs x y,none⟩ E g=mK H.length sz bytes zs (x.evE E) (y.evE E) G g:=(rfl)
theorem lY:de E none=true:=(rfl)
def cj (o:Option AV):Option (AV×Option aj):=
 match o with
 |some v=>some (v,none)
 |none=>none
theorem rb {v:AV}:cj (some v)=some (v,none):=(rfl)
def prP (o:Option PR) (g:Nat):Option (AV×Option aj):=
 match o with
 |some (.plain v)=>some (v,none)
 |some (.fresh sz n cs)=>some (.sl sz n cs (.own g),some (.tok sz))
 |some (.iO es)=>some (.mp g,some (.map es))
 |_=>none
theorem x8 {es:List (AV×AV)} {g:Nat}:prP (some (.iO es)) g=some (.mp g,some (.map es)):=(rfl)
theorem tU {v:AV} {g:Nat}:prP (some (.plain v)) g=some (v,none):=(rfl)
theorem ue {sz n g:Nat} {cs:List AV}:prP (some (.fresh sz n cs)) g=some (.sl sz n cs (.own g),some (.tok sz)):=(rfl)
def AOp.Nj:AOp->Bool
 | .lookup .. =>false
 |_=>true
def DZ (o q:Option AV):Option (AV×Option aj):=
 match o with
 |some v=>some (v,none)
 |none=>cj q
theorem qH {v:AV} {q:Option AV}:DZ (some v) q=some (v,none):=(rfl)
theorem pJ {q:Option AV}:DZ none q=cj q:=(rfl)
theorem aS {G:ab} {d:Option Nat} {op:AOp} {g:Nat} (h:op.pure=true) (hl:op.Nj=true:=by rfl):cm cb H G ⟨d,op,none⟩ E g=cj (aA op E H):=by
 simp only[cm,de,if_true]
 cases hv:aA op E H with
 |some v=>rfl
 |none=>cases op<;>first|rfl|(cases h;done)|(cases hl;done)
theorem Lt {G:ab} {x:X} {d:Option Nat} {g:Nat}:cm cb H G ⟨d,.mv x,none⟩ E g=cj (aA (.mv x) E H):=aS rfl
theorem A4 {G:ab} {c:X} {a:X} {b:X} {d:Option Nat} {g:Nat}:cm cb H G ⟨d,.pick c a b,none⟩ E g=cj (aA (.pick c a b) E H):=aS rfl
theorem wV {G:ab} {zs:List AV} {ps:List (Nat×Nat×X)} {d:Option Nat} {g:Nat}:cm cb H G ⟨d,.build zs ps,none⟩ E g=cj (aA (.build zs ps) E H):=aS rfl
theorem sN {G:ab} {sz:Nat} {len:Nat} {zs:List AV} {ps:List (Nat×Nat×X)} {d:Option Nat} {g:Nat}:cm cb H G ⟨d,.ir sz len zs ps,none⟩ E g=cj (aA (.ir sz len zs ps) E H):=aS rfl
theorem Lv {G:ab} {mx:Bool} {x:X} {y:X} {d:Option Nat} {g:Nat}:cm cb H G ⟨d,.mm mx x y,none⟩ E g=cj (aA (.mm mx x y) E H):=aS rfl
theorem tK {G:ab} {sz:Nat} {len:Nat} {zs:List AV} {ps:List (Nat×Nat×X)} {d:Option Nat} {g:Nat}:cm cb H G ⟨d,.aY sz len zs ps,none⟩ E g=cj (aA (.aY sz len zs ps) E H):=aS rfl
theorem Bd {G:ab} {sz:Nat} {ag:Bool} {x:X} {d:Option Nat} {g:Nat}:cm cb H G ⟨d,.load sz ag x,none⟩ E g=cj (aA (.load sz ag x) E H):=aS rfl
theorem ER {G:ab} {off:Nat} {x:X} {d:Option Nat} {g:Nat}:cm cb H G ⟨d,.fld off x,none⟩ E g=cj (aA (.fld off x) E H):=aS rfl
theorem Bl {G:ab} {off:Nat} {sz:Nat} {ag:Bool} {x:X} {d:Option Nat} {g:Nat}:cm cb H G ⟨d,.part off sz ag x,none⟩ E g=cj (aA (.part off sz ag x) E H):=aS rfl
theorem Et {G:ab} {sz:Nat} {x:X} {i:X} {d:Option Nat} {g:Nat}:cm cb H G ⟨d,.ixa sz x i,none⟩ E g=cj (aA (.ixa sz x i) E H):=aS rfl
theorem vr {G:ab} {n0:Nat} {sz:Nat} {x:X} {i:X} {d:Option Nat} {g:Nat}:cm cb H G ⟨d,.bn n0 sz x i,none⟩ E g=cj (aA (.bn n0 sz x i) E H):=aS rfl
theorem G4 {G:ab} {n0:Nat} {sz:Nat} {ag:Bool} {x:X} {i:X} {d:Option Nat} {g:Nat}:cm cb H G ⟨d,.ixv n0 sz ag x i,none⟩ E g=cj (aA (.ixv n0 sz ag x i) E H):=aS rfl
theorem EH {G:ab} {x:X} {i:X} {d:Option Nat} {g:Nat}:cm cb H G ⟨d,.ixs x i,none⟩ E g=cj (aA (.ixs x i) E H):=aS rfl
theorem GW {G:ab} {op:BinOp} {ek:EqK} {x:X} {y:X} {d:Option Nat} {g:Nat}:cm cb H G ⟨d,.bin op ek x y,none⟩ E g=cj (aA (.bin op ek x y) E H):=aS rfl
theorem Lm {G:ab} {uop:UnOp} {x:X} {d:Option Nat} {g:Nat}:cm cb H G ⟨d,.un uop x,none⟩ E g=cj (aA (.un uop x) E H):=aS rfl
theorem Bn {G:ab} {cv:CvK} {x:X} {d:Option Nat} {g:Nat}:cm cb H G ⟨d,.conv cv x,none⟩ E g=cj (aA (.conv cv x) E H):=aS rfl
theorem Aa {G:ab} {ty:TypeId} {x:X} {d:Option Nat} {g:Nat}:cm cb H G ⟨d,.oh ty x,none⟩ E g=cj (aA (.oh ty x) E H):=aS rfl
theorem Bv {G:ab} {f:FuncId} {xs:List X} {d:Option Nat} {g:Nat}:cm cb H G ⟨d,.gf f xs,none⟩ E g=cj (aA (.gf f xs) E H):=aS rfl
theorem sF {G:ab} {kk:Nat} {zero:AV} {j:Nat} {i:X} {ok:Bool} {d:Option Nat} {g:Nat}:cm cb H G ⟨d,.lookup kk zero (.t j) i ok,none⟩ E g=DZ (aA (.lookup kk zero (.t j) i ok) E H) (aA (.lookup kk zero (.t j) i ok) E G):=by
 simp only[cm,de,if_true]
 cases aA (.lookup kk zero (.t j) i ok) E H with
 |some v=>rfl
 |none=>cases aA (.lookup kk zero (.t j) i ok) E G<;>rfl
theorem qT {G:ab} {ty:TypeId} {zero:AV} {x:X} {ok:Bool} {d:Option Nat} {g:Nat}:cm cb H G ⟨d,.ff ty zero x ok,none⟩ E g=cj (aA (.ff ty zero x ok) E H):=aS rfl
theorem Fp {G:ab} {x:X} {j:Nat} {d:Option Nat} {g:Nat}:cm cb H G ⟨d,.ext x j,none⟩ E g=cj (aA (.ext x j) E H):=aS rfl
theorem vV {G:ab} {sz:Nat} {x:X} {lo:Option X} {hi:Option X} {d:Option Nat} {g:Nat}:cm cb H G ⟨d,.slice sz x lo hi,none⟩ E g=cj (aA (.slice sz x lo hi) E H):=aS rfl
theorem Bm {G:ab} {sz:Nat} {x:X} {lo:Option X} {hi:Option X} {mx:Option X} {d:Option Nat} {g:Nat}:cm cb H G ⟨d,.oV sz x lo hi mx,none⟩ E g=cj (aA (.oV sz x lo hi mx) E H):=aS rfl
theorem xO {G:ab} {x:X} {lo:Option X} {hi:Option X} {d:Option Nat} {g:Nat}:cm cb H G ⟨d,.fG x lo hi,none⟩ E g=cj (aA (.fG x lo hi) E H):=aS rfl
theorem Gs {G:ab} {k:Nat} {x:X} {d:Option Nat} {g:Nat}:cm cb H G ⟨d,.len k x,none⟩ E g=cj (aA (.len k x) E H):=aS rfl
theorem yM {G:ab} {x:X} {d:Option Nat} {g:Nat}:cm cb H G ⟨d,.bg x,none⟩ E g=cj (aA (.bg x) E H):=aS rfl
theorem qM {G:ab} {sz:Nat} {bytes:Nat} {zs:List AV} {x:X} {y:X} {d:Option Nat} {g:Nat}:cm cb H G ⟨d,.fS sz bytes zs x y,none⟩ E g=cj (aA (.fS sz bytes zs x y) E H):=aS rfl
theorem BB {G:ab} {sz bytes:Nat} {x y:X} {d:Option Nat} {g:Nat}:cm cb H G ⟨d,.vN sz bytes x y,none⟩ E g=cj (aA (.vN sz bytes x y) E H):=aS rfl
theorem z8 {G:ab} {x:X} {d:Option Nat} {g:Nat}:cm cb H G ⟨d,.qG x,none⟩ E g=cj (aA (.qG x) E H):=aS rfl
theorem vW {G:ab} {f:FuncId} {xs:List X} {d:Option Nat} {g:Nat}:cm cb H G ⟨d,.jq f xs,none⟩ E g=cj (aA (.jq f xs) E H):=aS rfl
theorem xB {G:ab} {n0 sz:Nat} {x:X} {lo hi:Option X} {d:Option Nat} {g:Nat}:cm cb H G ⟨d,.kT n0 sz x lo hi,none⟩ E g=cj (aA (.kT n0 sz x lo hi) E H):=aS rfl
theorem wD {G:ab} {n0:Nat} {x:X} {d:Option Nat} {g:Nat}:cm cb H G ⟨d,.l7 n0 x,none⟩ E g=cj (aA (.l7 n0 x) E H):=aS rfl
theorem Aq {G:ab} {x y:X} {d:Option Nat} {g:Nat}:cm cb H G ⟨d,.uK x y,none⟩ E g=cj (aA (.uK x y) E H):=aS rfl
theorem BD {G:ab} {x y:X} {d:Option Nat} {g:Nat}:cm cb H G ⟨d,.rT x y,none⟩ E g=cj (aA (.rT x y) E H):=aS rfl
def prV (cb:CB) (H:ab) (o:Option (FuncId×List AV)) (g:Nat):Option (AV×Option aj):=
 match o with
 |some (f,as)=>prP (pcx cb f as H) g
 |none=>none
theorem vQ {f:FuncId} {as:List AV} {g:Nat}:prV cb H (some (f,as)) g=prP (pcx cb f as H) g:=(rfl)
theorem sW {f:FuncId} {caps as:List AV}:ig (.fn f caps) as=some (f,as++caps):=(rfl)
theorem lD {f:FuncId} {fs as:List AV}:ig (.bnd f fs) as=some (f,fs++as):=(rfl)
theorem wM {G:ab} {zs:List AV} {d:Option Nat} {g:Nat}:cm cb H G ⟨d,.alloc zs,none⟩ E g=some (.ptr g 0,some (.cells zs)):=by
 simp only[cm,de,if_true,aA]
theorem rD {G:ab} {d:Option Nat} {x:X} {args:List X} {g:Nat}:cm cb H G ⟨d,.ct x args,none⟩ E g=prV cb H (ig (x.evE E) (args.map (·.evE E))) g:=by
 simp only[cm,de,if_true,aA]
 cases hc:ig (x.evE E) (args.map (·.evE E))with
 |none=>rfl
 | some q=>
   obtain⟨f,as⟩:=q;simp only[prV]
   cases hv:pcx cb f as H with
   |none=>rfl
   |some q=>cases q<;>rfl
theorem si {G:ab} {d:Option Nat} {f:FuncId} {args:List X} {g:Nat}:cm cb H G ⟨d,.bw f args,none⟩ E g=prP (pcx cb f (args.map (·.evE E)) H) g:=by
 simp only[cm,de,if_true,aA]
 cases hv:pcx cb f (args.map (·.evE E)) H with
 |none=>rfl
 |some q=>cases q<;>rfl
def GP (v:AV) (b:Bool) (o:Option (AV×Option aj)):Option (AV×Option aj):=
 match v with
 | .bool b'=>if b'=b then o else some (.tup [],none)
 |_=>some (.tup [],none)
theorem Ln {o:Option (AV×Option aj)}:GP (.bool true) true o=o:=(rfl)
theorem LC {o:Option (AV×Option aj)}:GP (.bool false) false o=o:=(rfl)
theorem Lf {o:Option (AV×Option aj)}:GP (.bool true) false o=some (.tup [],none):=(rfl)
theorem Lj {o:Option (AV×Option aj)}:GP (.bool false) true o=some (.tup [],none):=(rfl)
theorem DU {p:Prop} [Decidable p] {o:Option (AV×Option aj)} (h:p):GP (.bool (decide p)) true o=o:=by rw[decide_eq_true h];rfl
theorem Hh {p:Prop} [Decidable p] {o:Option (AV×Option aj)} (h:¬p):GP (.bool (decide p)) false o=o:=by rw[decide_eq_false h];rfl
theorem HU {p:Prop} [Decidable p] {o:Option (AV×Option aj)} (h:p):GP (.bool (decide p)) false o=some (.tup [],none):=by rw[decide_eq_true h];rfl
theorem EO {p:Prop} [Decidable p] {o:Option (AV×Option aj)} (h:¬p):GP (.bool (decide p)) true o=some (.tup [],none):=by rw[decide_eq_false h];rfl
theorem Ob {v:AV} {b:Bool} {o:Option (AV×Option aj)}:(if(match v with| .bool b'=>b'==b|_=>false)=true then o else some (.tup [],none))=GP v b o:=by
 cases v with
 | bool b'=>
   by_cases hb:b'=b
   . subst hb;simp[GP]
   . simp[GP,hb]
 |_=>rfl
theorem rH {G:ab} {d:Option Nat} {op:AOp} {t:Nat} {b:Bool} {g:Nat}:cm cb H G ⟨d,op,some (t,b)⟩ E g=GP (E t) b (cm cb H G ⟨d,op,none⟩ E g):=by
 rw[<-Ob];rfl
def prO (o:Option PR) (H:ab):Option (Out×ab):=
 match o with
 |some (.plain v)=>some (.ret v,H)
 |some (.fresh sz n cs)=>some (.ret (.sl sz n cs (.own H.length)),H++[.tok sz])
 |some (.iO es)=>some (.ret (.mp H.length),H++[.map es])
 |some (.pan c)=>some (.pan c,H)
 |some (.qy _)=>none
 |none=>none
theorem vR {es:List (AV×AV)}:prO (some (.iO es)) H=some (.ret (.mp H.length),H++[.map es]):=(rfl)
theorem sd {v:AV}:prO (some (.plain v)) H=some (.ret v,H):=(rfl)
theorem tO {sz n:Nat} {cs:List AV}:prO (some (.fresh sz n cs)) H=some (.ret (.sl sz n cs (.own H.length)),H++[.tok sz]):=(rfl)
theorem Al {c:List (AV×Bool)}:prO (some (.pan c)) H=some (.pan c,H):=(rfl)
theorem y6 {f:FuncId} {args:List AV} (hl:cb.cC f=false):pcx cb f args H=cb.pc f args:=by rw[pcx,if_neg (by simp[hl])]
end rules
theorem aP {cb:CB} {H:ab} {f:FuncId} {args:List AV} {p:PR} (hl:cb.cC f=false) (h:cb.pc f args=some p):pcx cb f args H=some p:=by rw[y6 hl];exact h
theorem br {cb:CB} {H:ab} {f:FuncId} {args:List AV} (hl:cb.cC f=false) (h:cb.pc f args=none):pcx cb f args H=none:=by rw[y6 hl];exact h
def mB (E:Env) (H:ab):List nt->Option (List AV)
 |[]=>some []
 | .tmp t::r=>(mB E H r).map (E t:: ·)
 | .cell t sz ag::r=>
   match E t with
   | .ptr id off=>
     match H[id]? with
     | some (.cells cs)=>
       match dP cs off sz ag,mB E H r with
       |some v,some vs=>some (v::vs)
       |_,_=>none
     |_=>none
   |_=>none
theorem zW (tm:List AV) (H:ab):∀rs,lQ tm H rs=mB (EV tm) H rs
 |[]=>rfl
 | .tmp t::r=>by simp only[lQ,mB,EV,zW tm H r]
 | .cell t sz ag::r=>by simp only[lQ,mB,EV,zW tm H r]<;>rfl
def qP:Ex->Option Mode
 | .normal=>some .returning
 | .ret=>some .returning
 | .panic c=>some (.panicking c)
 |_=>none
def Ends (tab:FuncId->Option av) (res:List nt) (P:Out->ab->Prop):KP:=fun e E df H=>
 match qP e with
 | some u=>
   match b6 tab (cbL tab) df u H with
   | some (.returning,H2)=>
     match mB E H2 res with
     |some vs=>P (.ret (ae vs)) H2
     |none=>False
   |some (.panicking c,H2)=>P (.pan c) H2
   |none=>False
 |none=>False
theorem xJ {tab:FuncId->Option av} {res:List nt} {P:Out->ab->Prop} {E:Env} {H:ab}:Ends tab res P .ret E [] H=match mB E H res with
   |some vs=>P (.ret (ae vs)) H
   |none=>False:=rfl
theorem oQ {tab:FuncId->Option av} {res:List nt} {P:Out->ab->Prop} {E:Env} {H:ab}:Ends tab res P .normal E [] H=match mB E H res with
   |some vs=>P (.ret (ae vs)) H
   |none=>False:=rfl
theorem rN {tab:FuncId->Option av} {res:List nt} {P:Out->ab->Prop} {E:Env} {H H2:ab} {df:List ADf} (h:b6 tab (cbL tab) df .returning H=some (.returning,H2)):Ends tab res P .ret E df H=Ends tab res P .ret E [] H2:=by
 simp only[Ends,qP,h,b6]
theorem gH {tab:FuncId->Option av} {res:List nt} {P:Out->ab->Prop} {E:Env} {H:ab} {k:Nat} (h:H[k]? =some .cZ):Ends tab res P .ret E [.mark k] H=Ends tab res P .ret E [] (H.set k .dead):=by
 simp only[Ends,qP,b6,h]
theorem oN {tab:FuncId->Option av} {res:List nt} {P:Out->ab->Prop} {E:Env} {H:ab} {k:Nat} (h:H[k]? =some .cZ):Ends tab res P .normal E [.mark k] H=Ends tab res P .normal E [] (H.set k .dead):=by
 simp only[Ends,qP,b6,h]
theorem pH {tab:FuncId->Option av} {res:List nt} {P:Out->ab->Prop} {E:Env} {H:ab} {c:List (AV×Bool)}:Ends tab res P (.panic c) E [] H=P (.pan c) H:=(rfl)
theorem mh {tab:FuncId->Option av} {fi:av} {args:List AV} {H:ab} {P:Out->ab->Prop} (hl:args.length<=fi.np) (hf:fi.body.fits fi.np=true)
   (h:Ret (cbL tab) none fi.np (Ends tab fi.res P) [.code fi.body] .normal (EV (fr0 fi.np args).tm) [] H):∃o H',gx tab (cbL tab) fi args H=some (o,H')/\P o H':=by
 have hlen:(fr0 fi.np args).tm.length=fi.np:=by
   simp only[fr0,List.length_append,List.length_replicate];omega
 obtain⟨e,fr,H',h1,E',h2,h3⟩:=od fi.body (Ret (cbL tab) none fi.np (Ends tab fi.res P) []) _ [] H _ hf (.inl rfl) ⟨hlen,rfl⟩ h;rw[gx];have h1':aN (cbL tab) none fi.body (fr0 fi.np args) H=some (e,fr,H'):=h1;rw[h1'];have h3:Ends tab fi.res P e E' fr.df H':=h3;simp only[Ends]at h3
 have fin:∀u,qP e=some u->∃o H'',(match b6 tab (cbL tab) fr.df u H' with
     |some (.returning,H2)=>(lQ fr.tm H2 fi.res).map fun vs=>(.ret (ae vs),H2)
     |some (.panicking c,H2)=>some (.pan c,H2)
     |none=>none)=some (o,H'')/\P o H'':=by
   intro u hu;rw[hu]at h3;simp only at h3;split at h3
   . rename_i H2 hl2
     (try rw[hl2])
     (try simp only)
     split at h3
     . rename_i vs hvs;rw[zW,h2.2,hvs];exact⟨_,_,rfl,h3⟩
     . exact h3.elim
   . rename_i c H2 hl2
     (try rw[hl2])
     exact⟨_,_,rfl,h3⟩
   . exact h3.elim
 cases e with
 |normal=>exact fin _ rfl
 |ret=>exact fin _ rfl
 |panic c=>exact fin _ rfl
 |exit j=>exact h3.elim
 |goto j=>exact h3.elim
def o4 (args:List AV):Env:=fun i=>args.getD i (.tup [])
theorem ko (a:AV) (r:List AV):o4 (a::r) 0=a:=(rfl)
theorem kb (a:AV) (r:List AV) (i:Nat):o4 (a::r) (i+1)=o4 r i:=(rfl)
theorem vE (i:Nat):o4 [] i= .tup []:=(rfl)
theorem nU (n:Nat) (args:List AV):EV (fr0 n args).tm=o4 args:=by
 funext i
 simp only[EV,fr0,o4,List.getD];by_cases h:i<args.length
 . rw[List.getElem?_append_left h]
 . rw[List.getElem?_append_right (by omega),List.getElem?_eq_none (l:=args) (by omega),List.getElem?_replicate]
   split<;>rfl
theorem Gr {m:Nat} {r:Option (Out×ab)} (h:m≠5/\m≠6):r9 m r=aH r:=by simp[r9,h.1,h.2]
theorem ES {m:Nat} {r:Option (Out×ab)} (h:m=6):r9 m r=cT r:=by simp[r9,h]
theorem ba {tab:FuncId->Option av} {f:FuncId} {fi:av} {args:List AV} {r:PR} (ht:tab f=some fi) (hon:bG fi args=true) (hl:args.length<=fi.np) (hf:fi.body.fits fi.np=true)
   (h:Ret (cbL tab) none fi.np (Ends tab fi.res fun o H=>aH (some (o,H))=some r) [.code fi.body] .normal (o4 (args.map aE)) [] []) (hcon:fi.con=none:=by rfl) (hm:fi.mode≠5/\fi.mode≠6:=by decide):(cbL tab).pc f args=some r:=by
 rw[<-nU fi.np]at h;apply se;rw[pcA,ht];simp only[hcon,hon,if_true];obtain⟨o,H',h1,h2⟩:=mh (by rw[List.length_map];exact hl) hf h;rw[h1,Gr hm,h2]
theorem cP {tab:FuncId->Option av} {f:FuncId} {fi:av} {args:List AV} {r:PR} (ht:tab f=some fi) (hon:bG fi args=true) (hl:args.length<=fi.np) (hf:fi.body.fits fi.np=true)
   (h:Ret (cbL tab) none fi.np (Ends tab fi.res fun o H=>cT (some (o,H))=some r) [.code fi.body] .normal (o4 (args.map aE)) [] []) (hcon:fi.con=none:=by rfl) (hm:fi.mode=6:=by rfl):(cbL tab).pc f args=some r:=by
 rw[<-nU fi.np]at h;apply se;rw[pcA,ht];simp only[hcon,hon,if_true];obtain⟨o,H',h1,h2⟩:=mh (by rw[List.length_map];exact hl) hf h;rw[h1,ES hm,h2]
theorem cK {tab:FuncId->Option av} {f:FuncId} {fi:av} {args:List AV} {H:ab} {P:Out->ab->Prop} (ht:tab f=some fi) (hon:bG fi args=false) (hl:args.length<=fi.np) (hf:fi.body.fits fi.np=true)
   (h:Ret (cbL tab) none fi.np (Ends tab fi.res P) [.code fi.body] .normal (o4 args) [] H) (hcon:fi.con=none:=by rfl) (hicon:fi.nC=none:=by rfl):∃o H',(cbL tab).ic f args H=some (o,H')/\P o H':=by
 rw[<-nU fi.np]at h;obtain⟨o,H',h1,h2⟩:=mh hl hf h;refine⟨o,H',HE ?_,h2⟩;rw[icA,ht];simp only[hcon,hicon,hon,Option.isSome_none,Bool.or_self,Bool.false_eq_true,if_false];exact h1
theorem bH {tab:FuncId->Option av} {f:FuncId} {fi:av} {args:List AV} (ht:tab f=some fi) (hon:bG fi args=false) (hcon:fi.con=none:=by rfl):(cbL tab).pc f args=none:=by
 cases hp:(cbL tab).pc f args with
 |none=>rfl
 | some r=>
   obtain⟨k,hk⟩:=dL.1 hp
   cases k with
   |zero=>cases hk
   | succ k=>
     have hk:pcA tab (cbs tab k) f args=some r:=hk;rw[pcA,ht]at hk;simp only[hcon,hon,Bool.false_eq_true,if_false]at hk;cases hk
theorem MK {tab:FuncId->Option av} {f:FuncId} {fi:av} {g:List AV->Option PR} {args:List AV} {r:PR} (ht:tab f=some fi) (hg:fi.con=some g) (h:g args=some r):(cbL tab).pc f args=some r:=by
 apply se;rw[pcA,ht];simp only[hg];exact h
end Go.Am
