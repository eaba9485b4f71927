/- THE RULES OF A WALK: what is to be shown of code, over an environment of temporaries as a function; sound for the interpreter. No condition. -/
import Derived.Test.YtephfpdnhdpmkaaGreatDoorAmLim
open Int (reduceEq)
open Nat (reduceEqDiff reduceAdd reduceMul reduceLT reduceLeDiff)
set_option linter.all false
namespace Go.Am
open Go
abbrev Env:=Nat->AV
def upd (E:Env) (j:Nat) (v:AV):Env:=fun i=>if i=j then v else E i
def cN (E:Env) (d:Option Nat) (v:AV):Env:=
 match d with
 |some d=>upd E d v
 |none=>E
theorem oX (E:Env) (j:Nat) (v:AV) (i:Nat):upd E j v i=if i=j then v else E i:=(rfl)
theorem jX (E:Env) (j:Nat) (v:AV):cN E (some j) v=upd E j v:=(rfl)
theorem jW (E:Env) (v:AV):cN E none v=E:=(rfl)
def X.evE (E:Env):X->AV
 | .t i=>E i
 | .c v=>v
theorem oz (E:Env) (i:Nat):X.evE E (.t i)=E i:=(rfl)
theorem Lu (E:Env) (v:AV):X.evE E (.c v)=v:=(rfl)
def qA (E:Env):List (Nat×Nat×X)->List (Nat×Nat×AV)
 |[]=>[]
 |(o,s,x)::r=>(o,s,x.evE E)::qA E r
def cQ (E:Env) (x:Option X) (d:Nat):Option Nat:=
 match x with
 |none=>some d
 |some x=>asNat (x.evE E)
def aw (o:AOp) (E:Env) (H:ab):Option AV:=
 match o with
 | .mv x=>some (x.evE E)
 | .pick c a b=>match c.evE E with
   | .bool t=>some (if t then a.evE E else b.evE E)
   |_=>none
 | .build zs ps=>(dY zs (qA E ps)).map .agg
 | .bc sz len zs ps=>match dY zs (qA E ps)with
   |some cs=>if au cs&&cs.length==len*sz then some (.sl sz len cs (if len=0 then .e else .ro))else none
   |none=>none
 | .iA sz len zs ps=>match dY zs (qA E ps)with
   |some cs=>if au cs&&cs.length==len*sz then some (.sl sz len cs .e)else none
   |none=>none
 | .mm mx x y=>match x.evE E,y.evE E with
   | .int k a,.int _ b=>some (.int k (if mx then(if a<b then b else a)else(if b<a then b else a)))
   |_,_=>none
 | .load sz ag x=>match x.evE E with
   | .ptr id off=>match H[id]? with
     |some (.cells cs)=>dZ cs off sz ag
     |_=>none
   | .bX cs=>dZ cs 0 sz ag
   |_=>none
 | .fld off x=>match x.evE E with
   | .ptr id o=>some (.ptr id (o+off))
   | .bX cs=>some (.bX (cs.drop off))
   |_=>none
 | .part off sz ag x=>match x.evE E with
   | .agg cs=>dZ cs off sz ag
   |_=>none
 | .ixa sz x i=>match x.evE E,i.evE E with
   | .sl sz' n cs _,.int _ j=>if sz=sz'/\0<=j/\j<n then some (.bX (cs.drop (j.toNat*sz)))else none
   | .msl sz' id off n,.int _ j=>if sz=sz'/\0<=j/\j<n then some (.ptr id (off+j.toNat*sz))else none
   | .rsl sz' id n,.int _ j=>if sz=sz'/\0<=j/\j<n then some (.ptr id (j.toNat*sz))else none
   |_,_=>none
 | .bk n sz x i=>match x.evE E,i.evE E with
   | .ptr id off,.int _ j=>if 0<=j/\j<n then some (.ptr id (off+j.toNat*sz))else none
   | .bX cs,.int _ j=>if 0<=j/\j<n then some (.bX (cs.drop (j.toNat*sz)))else none
   |_,_=>none
 | .ixv n sz ag x i=>match x.evE E,i.evE E with
   | .agg cs,.int _ j=>if 0<=j/\j<n then dZ cs (j.toNat*sz) sz ag else none
   |_,_=>none
 | .ixs x i=>match x.evE E,i.evE E with
   | .str s,.int _ j=>if 0<=j then(s[j.toNat]?).map fun b=> .int .u8 b.toNat else none
   |_,_=>none
 | .bin op ek x y=>bD op ek x y (x.evE E) (y.evE E)
 | .un op x=>unV op (x.evE E)
 | .conv k x=>match k,x.evE E with
   | .int k,.int _ n=>some (.int k (k.wrap n))
   | .same,.str s=>some (.str s)
   | .s2b,.str s=>if s.size<=70368744177664 then some (.sl 1 s.size (jD s) .ro)else none
   | .b2s,.sl sz n cs _=>if sz=1∨n=0 then(ij (cs.take n)).map fun l=> .str ⟨l.toArray⟩else none
   |_,_=>none
 | .mX t x=>some (.iface t (x.evE E))
 | .chk lx sx=>if cy (lx.map (·.evE E)) (sx.map (·.evE E))then some (.tup [])else none
 | .pK x=>if au (x.evE E).flat then some (.bX (x.evE E).flat)else none
 | .wR sz bytes x y=>match x.evE E,y.evE E with
   | .sl sz' 0 [] .e,.sl sz'' m ds _=>
     if 0<sz/\m*bytes<=70368744177664/\m<=70368744177664/\m≠0/\sz''=sz/\m*sz<=ds.length/\au (ds.take (m*sz))=true then some (.sl sz m (ds.take (m*sz)) .ro)
     else if m=0 then some (.sl sz' 0 [] .e)else none
   |_,_=>none
 | .gn f caps=>some (.fn f (caps.map (·.evE E)))
 | .jn f fs=>some (.bnd f (fs.map (·.evE E)))
 | .rX x c=>match x.evE E,c.evE E with
   | .str s,.int .u8 k=>some (MP (rW (UInt8.ofNat k.toNat) s.data.toList))
   |_,_=>none
 | .vo x c=>match x.evE E,c.evE E with
   | .str s,.int .u8 k=>some (.int .i64 (s.data.toList.count (UInt8.ofNat k.toNat):Nat))
   |_,_=>none
 | .fR sz bytes zs l c=>match gh sz bytes zs (l.evE E) (c.evE E)with
   |some n=>some (.sl sz n (cc n zs) .e)
   |none=>none
 | .lookup kk zero x i ok=>match x.evE E with
   | .fj=>match bn kk (i.evE E) (i.evE E)with
     |some _=>some (if ok then .tup [zero,.bool false] else zero)
     |none=>none
   | .mp id=>match H[id]? with
     | some (.map es)=>match bn kk (i.evE E) (i.evE E),cG kk (i.evE E) es 0 with
       |some _,some (some (_,v))=>some (if ok then .tup [v,.bool true] else v)
       |some _,some none=>some (if ok then .tup [zero,.bool false] else zero)
       |_,_=>none
     |_=>none
   |_=>none
 | .eV t zero x ok=>match x.evE E with
   | .iface t' v=>if t'=t then some (if ok then .tup [v,.bool true] else v)else if ok then some (.tup [zero,.bool false])else none
   | .fO=>if ok then some (.tup [zero,.bool false])else none
   |_=>none
 | .ext x i=>match x.evE E with
   | .tup vs=>vs[i]?
   |_=>none
 | .slice sz x lo hi=>match x.evE E with
   | .sl sz' n cs tk=>match cQ E lo 0,cQ E hi n with
     | some l,some h=>
       if sz=sz'/\0<sz/\l<=h/\h*sz<=cs.length then
         some (if l=0/\h=n then .sl sz n cs tk else .sl sz (h-l) (cs.drop (l*sz)) .ro)
       else if tk.isZ=true/\l=0/\h=0 then some (.sl sz' n cs tk)else none
     |_,_=>none
   | .msl sz' id off n=>match cQ E lo 0,cQ E hi n with
     |some l,some h=>if sz=sz'/\0<sz/\l<=h/\h<=n then some (if l=h then .sl sz 0 [] .ro else .msl sz id (off+l*sz) (h-l))else none
     |_,_=>none
   |_=>none
 | .oQ sz x lo hi mx=>match x.evE E with
   | .sl sz' n cs tk=>match cQ E lo 0,cQ E hi n,cQ E mx n with
     | some l,some h,some m=>
       if sz=sz'/\0<sz/\l<=h/\h=m/\h*sz<=cs.length/\tk.isZ=false then
         some (.sl sz (h-l) ((cs.take (h*sz)).drop (l*sz)) .ro)
       else none
     |_,_,_=>none
   | .msl sz' id off n=>match cQ E lo 0,cQ E hi n,cQ E mx n with
     |some l,some h,some m=>if sz=sz'/\0<sz/\l<=h/\h=m/\h<=n then some (if l=h then .sl sz 0 [] .ro else .msl sz id (off+l*sz) (h-l))else none
     |_,_,_=>none
   |_=>none
 | .fD x lo hi=>match x.evE E with
   | .str s=>match cQ E lo 0,cQ E hi s.size with
     |some l,some h=>if l<=h/\h<=s.size then some (.str (s.extract l h))else none
     |_,_=>none
   |_=>none
 | .kE n sz x lo hi=>match x.evE E with
   | .ptr id off=>match cQ E lo 0,cQ E hi n with
     |some l,some h=>if l<=h/\h<=n then some (if l=h then .sl sz 0 [] .ro else .msl sz id (off+l*sz) (h-l))else none
     |_,_=>none
   | .bX cs=>match cQ E lo 0,cQ E hi n with
     |some l,some h=>if l<=h/\h<=n/\n*sz<=cs.length then some (if l=h then .sl sz 0 [] .ro else .sl sz (h-l) ((cs.take (n*sz)).drop (l*sz)) .ro)else none
     |_,_=>none
   |_=>none
 | .mO n x=>match x.evE E with
   | .sl _ m cs _=>if 0<n/\n<=m then some (.bX cs)else none
   | .msl _ id off m=>if n<=m then some (.ptr id off)else none
   |_=>none
 | .len k x=>match k,x.evE E with
   |0,.sl _ n _ _=>some (.int .i64 n)
   |0,.msl _ _ _ n=>some (.int .i64 n)
   |0,.rsl _ _ n=>some (.int .i64 n)
   |1,.str s=>some (.int .i64 s.size)
   |2,.fj=>some (.int .i64 0)
   | 2,.mp id=>match H[id]? with
     |some (.map es)=>some (.int .i64 es.length)
     |_=>none
   |_,_=>none
 | .bh x=>match x.evE E with
   | .ptr id off=>some (.ptr id off)
   | .bX cs=>some (.bX cs)
   | .fn f cs=>some (.fn f cs)
   | .bnd f cs=>some (.bnd f cs)
   | .iface t v=>some (.iface t v)
   |_=>none
 |_=>none
def a8 (o:AOp) (E:Env) (H:ab):Option (Nx×ab):=
 match o with
 | .alloc zs=>some (.val (.ptr H.length 0),H++[.cells zs])
 | .box x=>if au (x.evE E).flat then some (.val (.ptr H.length 0),H++[.cells (x.evE E).flat])else none
 | .store sz a x=>match a.evE E with
   | .ptr id off=>match H[id]? with
     | some (.cells cs)=>
       if(x.evE E).flat.length=sz/\off+sz<=cs.length/\au (x.evE E).flat then
         some (.skip,H.set id (.cells (cs.take off++(x.evE E).flat++cs.drop (off+sz))))
       else none
     |_=>none
   |_=>none
 | .clr sz zs x=>match x.evE E with
   | .sl _ 0 _ _=>some (.val (.tup []),H)
   | .msl sz' id off n=>match H[id]? with
     | some (.cells cs)=>
       if sz'=sz/\zs.length=sz/\n≠0/\off+n*sz<=cs.length/\au zs=true then
         some (.val (.tup []),H.set id (.cells (cs.take off++cc n zs++cs.drop (off+n*sz))))
       else none
     |_=>none
   |_=>none
 | .cpy sz x y=>match x.evE E,rowOf H (y.evE E)with
   | .msl sz' id off n,.sl sz'' m ds _=>match H[id]? with
     | some (.cells cs)=>
       if m=0 then some (.val (.int .i64 0),H)
       else if sz'=sz/\sz''=sz/\min m n*sz<=ds.length/\off+min m n*sz<=cs.length/\au (ds.take (min m n*sz))=true then
         some (.val (.int .i64 (min m n:Nat)),H.set id (.cells (cs.take off++ds.take (min m n*sz)++cs.drop (off+min m n*sz))))
       else none
     |_=>none
   |_,_=>none
 | .jq=>some (.val (.mp H.length),H++[.map []])
 | .iF kk x k v=>match x.evE E with
   | .mp id=>match H[id]? with
     | some (.map es)=>match bn kk (k.evE E) (k.evE E),cG kk (k.evE E) es 0 with
       |some _,some (some (i,_))=>some (.skip,H.set id (.map (es.set i (k.evE E,v.evE E))))
       |some _,some none=>some (.skip,H.set id (.map (es++[(k.evE E,v.evE E)])))
       |_,_=>none
     |_=>none
   |_=>none
 | .append sz bytes x y=>fJ sz bytes (x.evE E) (rowOf H (y.evE E)) H
 | .ja sz bytes x y=>match x.evE E,y.evE E with
   | .sl sz' n cs tk,.sl sz'' m ds _=>
     if 0<sz/\(n+m)*bytes<=70368744177664/\n+m<=70368744177664 then
       if m≠0/\sz''=sz/\m*sz<=ds.length/\au (ds.take (m*sz))/\n=0/\tk.empty then some (.val (.msl sz H.length 0 m),H++[.cells (ds.take (m*sz))])
       else if m=0/\tk.empty then some (.val (.sl sz' n cs tk),H)else none
     else none
   |_,_=>none
 | .fU sz bytes x y=>nL sz bytes (x.evE E) (y.evE E) H
 | .bM f args=>some (.enter f (args.map (·.evE E)),H)
 | .ju rw f args=>some (.dR rw f (args.map (·.evE E)),H)
 | .mM f args=>some (.dR false f (args.map (·.evE E)),H)
 | .rU x=>if au (x.evE E).flat then some (.val (.ptr H.length 0),H++[.cells (x.evE E).flat])else none
 | .ct x args=>match x.evE E with
   | .fn f caps=>some (.enter f (args.map (·.evE E)++caps),H)
   | .bnd f fs=>some (.enter f (fs++args.map (·.evE E)),H)
   | .yld id=>some (.yield id (args.map (·.evE E)),H)
   |_=>none
 | .fA=>some (.fA,H)
 | .panic x=>match x.evE E with
   | .iface t v=>some (.pan (.iface t v),H)
   |_=>none
 | .dfr x args=>match x.evE E with
   | .fn f caps=>some (.dfr (.call f (args.map (·.evE E)++caps)),H)
   |_=>none
 | .eW sz bytes zs l c=>match gh sz bytes zs (l.evE E) (c.evE E)with
   |some n=>some (.val (.msl sz H.length 0 n),H++[.cells (cc n zs)])
   |none=>none
 | .oh sz len zs ps=>match dY zs (qA E ps)with
   |some cs=>if au cs&&cs.length==len*sz then some (.val (.rsl sz H.length len),H++[.cells cs])else none
   |none=>none
 | .vm sz bytes zs x n=>match x.evE E,gh sz bytes zs (n.evE E) (n.evE E)with
   | .sl sz' k cs (.own g),some m=>fJ sz bytes (.sl sz' k cs (.own g)) (.sl sz m (cc m zs) .ro) H
   | .rsl sz' id k,some m=>nL sz bytes (.rsl sz' id k) (.sl sz m (cc m zs) .ro) H
   |_,_=>none
 |_=>none
theorem sC {k:Nat} {x:X} {E:Env} {H:ab}:aw (.len k x) E H=(match k,x.evE E with
   |0,.sl _ n _ _=>some (.int .i64 n)
   |0,.msl _ _ _ n=>some (.int .i64 n)
   |0,.rsl _ _ n=>some (.int .i64 n)
   |1,.str s=>some (.int .i64 s.size)
   |2,.fj=>some (.int .i64 0)
   | 2,.mp id=>match H[id]? with
     |some (.map es)=>some (.int .i64 es.length)
     |_=>none
   |_,_=>none):=(rfl)
theorem pq {k:CvK} {x:X} {E:Env} {H:ab}:aw (.conv k x) E H=(match k,x.evE E with
   | .int k,.int _ n=>some (.int k (k.wrap n))
   | .same,.str s=>some (.str s)
   | .s2b,.str s=>if s.size<=70368744177664 then some (.sl 1 s.size (jD s) .ro)else none
   | .b2s,.sl sz n cs _=>if sz=1∨n=0 then(ij (cs.take n)).map fun l=> .str ⟨l.toArray⟩else none
   |_,_=>none):=(rfl)
def EV (tm:List AV):Env:=fun i=>tm.getD i (.tup [])
theorem iE (tm:List AV) (x:X):x.ev tm=x.evE (EV tm):=by cases x<;>rfl
theorem yY (tm:List AV):∀ps,evP tm ps=qA (EV tm) ps
 |[]=>rfl
 |(o,s,x)::r=>by simp only[evP,qA,iE,yY tm r]
theorem Ho (tm:List AV) (x:Option X) (d:Nat):bound tm x d=cQ (EV tm) x d:=by
 cases x with
 |none=>rfl
 |some x=>simp only[bound,cQ,iE]
theorem BD (tm:List AV) (o:AOp) (H:ab):aS o tm H=aw o (EV tm) H:=by
 have h:(fun x:X=>x.ev tm)=(fun x:X=>x.evE (EV tm)):=funext (iE tm)
 cases o<;>(try simp only[aS,aw,iE,yY,Ho])<;>(try rfl)
theorem JJ (tm:List AV) (o:AOp) (H:ab):bH o tm H=a8 o (EV tm) H:=by
 have h:(fun x:X=>x.ev tm)=(fun x:X=>x.evE (EV tm)):=funext (iE tm)
 cases o<;>(try simp only[bH,a8,iE,yY])<;>(try rfl)
def db (E:Env) (g:Option (Nat×Bool)):Bool:=
 match g with
 |none=>true
 | some (t,b)=>match E t with
   | .bool b'=>b'==b
   |_=>false
theorem nB (tm:List AV) (g:Option (Nat×Bool)):bB tm g=db (EV tm) g:=by
 cases g with
 |none=>rfl
 | some g=>
   obtain⟨t,b⟩:=g;simp only[bB,db,EV,List.getD]
   cases tm[t]? with
   |none=>rfl
   |some v=>cases v<;>rfl
def Ag (n:Nat) (tm:List AV) (E:Env):Prop:=tm.length=n/\EV tm=E
theorem Ag.set {n:Nat} {tm:List AV} {E:Env} (h:Ag n tm E) {j:Nat} (hj:j<n) (v:AV):Ag n (tm.set j v) (upd E j v):=by
 refine⟨by rw[List.length_set];exact h.1, ?_⟩;rw[<-h.2]
 funext i
 simp only[EV,upd,List.getD,List.getElem?_set];by_cases hi:j=i
 . subst hi;simp[h.1,hj]
 . rw[if_neg hi,if_neg (fun e=>hi e.symm)]
def FG (n:Nat):Option Nat->Bool
 |some d=>Nat.blt d n
 |none=>true
theorem Ag.bZ {n:Nat} {tm:List AV} {E:Env} (h:Ag n tm E) {d:Option Nat} (hj:FG n d=true) (v:AV):Ag n (bZ tm d v) (cN E d v):=by
 cases d with
 |none=>exact h
 |some d=>exact h.set (by simpa[FG,Nat.blt_eq] using hj) v
def l9 (n:Nat):List ai->Bool
 |[]=>true
 |o::r=>FG n o.dst&&l9 n r
def aC.fits (n:Nat):aC->Bool
 | .region ops=>l9 n ops
 | .drawn a b=>l9 n a&&l9 n b
 | .seq a b=>a.fits n&&b.fits n
 | .cond _ a b=>a.fits n&&b.fits n
 | .block _ a=>a.fits n
 | .loop a=>a.fits n
 | .range _ _ a b=>a.fits n&&b.fits n
 | .scope a=>a.fits n
 | .b8 a b=>a.fits n&&b.fits n
 |_=>true
abbrev KP:=Ex->Env->List ADf->ab->Prop
def wpr (cb:CB) (K:KP):List ai->Env->List ADf->ab->Prop
 |[],E,df,H=>K .normal E df H
 | o::rest,E,df,H=>
   if db E o.guard then
     match aw o.op E H with
     |some v=>wpr cb K rest (cN E o.dst v) df H
     | none=>
       match a8 o.op E H with
       |some (.val v,H')=>wpr cb K rest (cN E o.dst v) df H'
       |some (.skip,H')=>wpr cb K rest (cN E o.dst (.tup [])) df H'
       | some (.enter f args,H')=>
         match dS cb f args H' with
         |some (.ret v,H'')=>wpr cb K rest (cN E o.dst v) df H''
         |some (.pan c,H'')=>K (.panic c) E df H''
         |none=>False
       | some (.dR rw f args,H')=>
         match eJ cb rw f args H' with
         |some (.ret v,H'')=>wpr cb K rest (cN E o.dst v) df H''
         |some (.pan c,H'')=>K (.panic c) E df H''
         |none=>False
       | some (.yield id args,H')=>
         match cb.yl id args H' with
         |some (.ret v,H'')=>wpr cb K rest (cN E o.dst v) df H''
         |some (.pan c,H'')=>K (.panic c) E df H''
         |none=>False
       |some (.pan v,H')=>K (.panic [(v,false)]) E df H'
       |some (.dfr d,H')=>wpr cb K rest (cN E o.dst (.tup [])) (d::df) H'
       |_=>False
   else wpr cb K rest (cN E o.dst (.tup [])) df H
def om:List ai->Bool
 |[]=>true
 |o::r=>(match o.op with| .dfr _ _=>false|_=>true)&&om r
def aC.plain:aC->Bool
 | .region ops=>om ops
 | .drawn _ b=>om b
 | .seq a b=>a.plain&&b.plain
 | .cond _ a b=>a.plain&&b.plain
 | .block _ a=>a.plain
 | .loop a=>a.plain
 | .range _ _ _ _=>false
 | .scope a=>a.plain
 | .b8 a b=>a.plain&&b.plain
 |_=>true
def PC (rd:Option Nat) (c:aC):Prop:=rd=none∨c.plain=true
def Li (rd:Option Nat) (c:List ai):Prop:=rd=none∨om c=true
theorem zS {cb:CB} {rd:Option Nat} {n:Nat} {K:KP}:∀(ops:List ai) (E:Env) (df:List ADf) (H:ab) (tm:List AV),l9 n ops=true->Li rd ops->Ag n tm E->wpr cb K ops E df H→
   ∃e fr H',aT cb rd ops ⟨tm,df⟩ H=some (e,fr,H')/\∃E',Ag n fr.tm E'/\K e E' fr.df H':=by
 intro ops
 induction ops with
 |nil=>intro E df H tm _ _ ha h;exact⟨.normal,_,_,rfl,E,ha,h⟩
 | cons o ops ih=>
   intro E df H tm hf hok ha h;simp only[l9,Bool.and_eq_true]at hf
   have hok':Li rd ops:=by
     rcases hok with h|h
     . exact .inl h
     . simp only[om,Bool.and_eq_true]at h;exact .inr h.2
   have hE:=ha.2;rw[aT];rw[wpr]at h;simp only[nB,BD,JJ,hE];split at h
   . rename_i hw;rw[if_pos hw];split at h
     . rename_i hv;rw[hv];exact ih _ _ _ _ hf.2 hok' (ha.bZ hf.1 _) h
     . rename_i hv;rw[hv];simp only;split at h
       . rename_i hx;rw[hx];exact ih _ _ _ _ hf.2 hok' (ha.bZ hf.1 _) h
       . rename_i hx;rw[hx];exact ih _ _ _ _ hf.2 hok' (ha.bZ hf.1 _) h
       . rename_i hx;rw[hx];simp only;split at h
         . rename_i hy;rw[hy];exact ih _ _ _ _ hf.2 hok' (ha.bZ hf.1 _) h
         . rename_i hy;rw[hy];exact⟨_,_,_,rfl,E,ha,h⟩
         . exact h.elim
       . rename_i hx;rw[hx];simp only;split at h
         . rename_i hy;rw[hy];exact ih _ _ _ _ hf.2 hok' (ha.bZ hf.1 _) h
         . rename_i hy;rw[hy];exact⟨_,_,_,rfl,E,ha,h⟩
         . exact h.elim
       . rename_i hx;rw[hx];simp only;split at h
         . rename_i hy;rw[hy];exact ih _ _ _ _ hf.2 hok' (ha.bZ hf.1 _) h
         . rename_i hy;rw[hy];exact⟨_,_,_,rfl,E,ha,h⟩
         . exact h.elim
       . rename_i hx;rw[hx];exact⟨_,_,_,rfl,E,ha,h⟩
       . rename_i d H' hx;rw[hx];simp only
         have hrd:rd.isSome=false:=by
           rcases hok with h|h
           . rw[h];rfl
           . simp only[om,Bool.and_eq_true]at h;have h1:=h.1;exfalso;revert hx h1
             cases o.op<;>simp only[a8]<;>intro hx h1<;>(try cases h1)<;>(try (cases hx))<;>(repeat' split at hx)<;>(try cases hx)<;>(try (simp only[fJ,nL]at hx))<;>(repeat' split at hx)<;>(try cases hx)
         simp only[hrd,Bool.false_eq_true,if_false];exact ih _ _ _ _ hf.2 hok' (ha.bZ hf.1 _) h
       . exact h.elim
   . rename_i hw;rw[if_neg hw];exact ih _ _ _ _ hf.2 hok' (ha.bZ hf.1 _) h
def MY (h:Nat) (op:AOp) (E:Env) (G:ab) (g:Nat):Option (AV×Option aj):=
 match op with
 | .oN sz bytes x y=>kZ sz bytes (x.evE E) (y.evE E) g
 | .jk sz bytes zs x n=>mD h sz bytes zs (x.evE E) (n.evE E) G g
 |_=>none
theorem L3 (h:Nat) (op:AOp) (tm:List AV) (G:ab) (g:Nat):apX h op tm G g=MY h op (EV tm) G g:=by
 cases op<;>simp only[apX,MY,iE]
def cq (cb:CB) (H G:ab) (o:ai) (E:Env) (g:Nat):Option (AV×Option aj):=
 if db E o.guard then
   match aw o.op E H with
   |some v=>some (v,none)
   | none=>
     match o.op with
     | .alloc zs=>some (.ptr g 0,some (.cells zs))
     | .lookup kk zero (.t i) k ok=>(aw (.lookup kk zero (.t i) k ok) E G).map fun v=>(v,none)
     | .bM f args=>
       match pcx cb f (args.map (·.evE E)) H with
       |some (.plain v)=>some (v,none)
       |some (.fresh sz n cs)=>some (.sl sz n cs (.own g),some (.tok sz))
       |some (.iJ es)=>some (.mp g,some (.map es))
       |_=>none
     | .ct x args=>
       match ig (x.evE E) (args.map (·.evE E))with
       | some (f,as)=>
         match pcx cb f as H with
         |some (.plain v)=>some (v,none)
         |some (.fresh sz n cs)=>some (.sl sz n cs (.own g),some (.tok sz))
         |some (.iJ es)=>some (.mp g,some (.map es))
         |_=>none
       |none=>none
     | .mM f args=>
       match pcx cb f (args.map (·.evE E)) H with
       |some (.fresh sz n cs)=>if cs.all (·.lH)&&cs.length==n*sz then some (.msl sz g 0 n,some (.cells cs))else none
       |_=>none
     | .rU x=>if au (x.evE E).flat then some (.ptr g 0,some (.cells (x.evE E).flat))else none
     |op=>MY H.length op E G g
 else some (.tup [],none)
def qV (o:ai) (E:Env):Option Nat:=
 match o.op with
 | .jk _ _ _ x _=>if db E o.guard then(match x.evE E with
   | .sl _ _ _ (.own g0)=>some g0
   |_=>none)else none
 |_=>none
theorem Cr (o:ai) (tm:List AV):bN o tm=qV o (EV tm):=by
 unfold bN qV;rw[nB]
 cases o.op<;>(try simp only[iE])<;>(try rfl)<;>(split<;>rfl)
theorem LR (cb:CB) (H G:ab) (o:ai) (tm:List AV) (g:Nat):ap1 cb H G o tm g=cq cb H G o (EV tm) g:=by
 have h:(fun x:X=>x.ev tm)=(fun x:X=>x.evE (EV tm)):=funext (iE tm);simp only[ap1,cq,nB,BD,L3]
 cases o.op<;>(try simp only[iE])<;>(try rfl)
def lV (H:ab) (e:List aj):ab:=H++e
def zQ (cb:CB) (H:ab) (K:Env->List aj->Prop):List ai->Env->List aj->Prop
 |[],E,e=>K E e
 | o::rest,E,e=>
   match cq cb H (lV H e) o E (H.length+e.length)with
   |some (v,k)=>zQ cb H K rest (cN E o.dst v) (kR H.length (qV o E) (e++k.toList))
   |none=>False
theorem KO {cb:CB} {n:Nat} {H:ab} {K:Env->List aj->Prop}:∀(ops:List ai) (E:Env) (e:List aj) (tm:List AV),l9 n ops=true->Ag n tm E->zQ cb H K ops E e→
   ∃tm' e',js cb H ops tm e=some (tm',e')/\∃E',Ag n tm' E'/\K E' e':=by
 intro ops
 induction ops with
 |nil=>intro E e tm _ ha h;exact⟨_,_,rfl,E,ha,h⟩
 | cons o ops ih=>
   intro E e tm hf ha h;simp only[l9,Bool.and_eq_true]at hf;rw[js,LR,ha.2];rw[zQ]at h;split at h
   . rename_i hv;rw[show H++e=lV H e from rfl,hv];rw[Cr,ha.2];exact ih _ _ _ hf.2 (ha.bZ hf.1 _) h
   . exact h.elim
def pU (cb:CB) (rd:Option Nat) (n:Nat) (c:aC) (K:KP) (E:Env) (df:List ADf) (H:ab):Prop:=
 ∀tm,Ag n tm E->∃e fr H',cb.run rd c ⟨tm,df⟩ H=some (e,fr,H')/\∃E',Ag n fr.tm E'/\K e E' fr.df H'
def zm (cb:CB) (rd:Option Nat) (n:Nat) (x:X) (ps:List Nat) (as bd:aC) (K:KP) (E:Env) (df:List ADf) (H:ab):Prop:=
 ∀ tm,Ag n tm E→
   match (match rd with
     |none=>some (H.length+1,.mark H.length::df,H++[.cO,.loop 0 .normal tm ps as bd])
     | some l=>match ck H l with
       |some _=>some (H.length,df,H++[.loop 0 .normal tm ps as bd])
       |none=>none)with
   | some (id,df1,H1)=>
     match x.evE E with
     | .fn f caps=>
       match cb.ic f (.yld id::caps) H1 with
       | some (.ret _,H2)=>
         match ck H2 id with
         |some (st,pend,tm',ps',as',bd')=>st≠1/\pend.jumps=true/\K pend E df1 (H2.set id (.loop 3 pend tm' ps' as' bd'))
         |none=>False
       |_=>False
     |_=>False
   |none=>False
def wpc (cb:CB) (rd:Option Nat) (n:Nat):aC->KP->Env->List ADf->ab->Prop
 | .skip,K,E,df,H=>K .normal E df H
 | .label _,K,E,df,H=>K .normal E df H
 | .exit id,K,E,df,H=>K (.exit id) E df H
 | .goto l,K,E,df,H=>K (.goto l) E df H
 | .ret,K,E,df,H=>K .ret E df H
 | .region ops,K,E,df,H=>wpr cb K ops E df H
 | .drawn pre tail,K,E,df,H=>zQ cb H (fun E' e=>wpr cb K tail E' df (H++e)) pre E []
 | .seq a b,K,E,df,H=>wpc cb rd n a (fun e E' df' H'=>match e with| .normal=>wpc cb rd n b K E' df' H'|e=>K e E' df' H') E df H
 | .cond x a b,K,E,df,H=>match x.evE E with
   | .bool true=>wpc cb rd n a K E df H
   | .bool false=>wpc cb rd n b K E df H
   |_=>False
 | .block id a,K,E,df,H=>wpc cb rd n a (fun e E' df' H'=>match e with| .exit id'=>if id'=id then K .normal E' df' H' else K (.exit id') E' df' H'|e=>K e E' df' H') E df H
 | .loop a,K,E,df,H=>wpc cb rd n a (fun e E' df' H'=>match e with| .normal=>pU cb rd n (.loop a) K E' df' H'|e=>K e E' df' H') E df H
 | .scope a,K,E,df,H=>wpc cb rd n a (fun e E' df' H'=>match e with
   | .goto l=>match e8 a l with
     |some rest=>pU cb rd n (.b8 a rest) K E' df' H'
     |none=>K (.goto l) E' df' H'
   |e=>K e E' df' H') E df H
 | .b8 w a,K,E,df,H=>wpc cb rd n a (fun e E' df' H'=>match e with
   | .goto l=>match e8 w l with
     |some rest=>pU cb rd n (.b8 w rest) K E' df' H'
     |none=>K (.goto l) E' df' H'
   |e=>K e E' df' H') E df H
 | .range x ps as bd,K,E,df,H=>zm cb rd n x ps as bd K E df H
def aC.rng:aC->Bool
 | .range _ _ _ _=>true
 | .seq a b=>a.rng||b.rng
 | .cond _ a b=>a.rng||b.rng
 | .block _ a=>a.rng
 | .loop a=>a.rng
 | .scope a=>a.rng
 | .b8 a b=>a.rng||b.rng
 |_=>false
def aC.iD:aC->Bool
 | .region ops=>om ops
 | .drawn _ b=>om b
 | .seq a b=>a.iD&&b.iD
 | .cond _ a b=>a.iD&&b.iD
 | .block _ a=>a.iD
 | .loop a=>a.iD
 | .range _ _ _ _=>true
 | .scope a=>a.iD
 | .b8 a b=>a.iD&&b.iD
 |_=>true
theorem nW {cb:CB} {rd:Option Nat} {n:Nat}:∀(c:aC) (K:KP) (E:Env) (df:List ADf) (H:ab) (tm:List AV),c.fits n=true->(rd=none∨c.iD=true)->Ag n tm E->wpc cb rd n c K E df H→
   ∃e fr H',aN cb rd c ⟨tm,df⟩ H=some (e,fr,H')/\∃E',Ag n fr.tm E'/\K e E' fr.df H':=by
 intro c
 induction c with
 |skip=>intro K E df H tm _ _ ha h;exact⟨_,_,_,rfl,E,ha,h⟩
 |label l=>intro K E df H tm _ _ ha h;exact⟨_,_,_,rfl,E,ha,h⟩
 |exit l=>intro K E df H tm _ _ ha h;exact⟨_,_,_,rfl,E,ha,h⟩
 |goto l=>intro K E df H tm _ _ ha h;exact⟨_,_,_,rfl,E,ha,h⟩
 |ret=>intro K E df H tm _ _ ha h;exact⟨_,_,_,rfl,E,ha,h⟩
 |region ops=>intro K E df H tm hf ho ha h;exact zS ops E df H tm hf ho ha h
 | drawn pre tail=>
   intro K E df H tm hf ho ha h;simp only[aC.fits,Bool.and_eq_true]at hf;obtain⟨tm',e',h1,E',h2,h3⟩:=KO pre E [] tm hf.1 ha h;rw[aN,h1];exact zS tail E' df _ tm' hf.2 ho h2 h3
 | seq a b iha ihb=>
   intro K E df H tm hf ho ha h;simp only[aC.fits,Bool.and_eq_true]at hf;obtain⟨e,fr,H',h1,E',h2,h3⟩:=iha _ E df H tm hf.1 (ho.imp id fun h=>by simp only[aC.iD,Bool.and_eq_true]at h;exact h.1) ha h;rw[aN,h1]
   cases e with
   |normal=>exact ihb K E' fr.df H' fr.tm hf.2 (ho.imp id fun h=>by simp only[aC.iD,Bool.and_eq_true]at h;exact h.2) h2 h3
   |_=>exact⟨_,_,_,rfl,E',h2,h3⟩
 | cond x a b iha ihb=>
   intro K E df H tm hf ho ha h;simp only[aC.fits,Bool.and_eq_true]at hf;rw[aN];simp only[iE,ha.2];rw[wpc]at h;split at h
   . rename_i hv;rw[hv];exact iha K E df H tm hf.1 (ho.imp id fun h=>by simp only[aC.iD,Bool.and_eq_true]at h;exact h.1) ha h
   . rename_i hv;rw[hv];exact ihb K E df H tm hf.2 (ho.imp id fun h=>by simp only[aC.iD,Bool.and_eq_true]at h;exact h.2) ha h
   . exact h.elim
 | block id a ih=>
   intro K E df H tm hf ho ha h;obtain⟨e,fr,H',h1,E',h2,h3⟩:=ih _ E df H tm hf ho ha h;rw[aN,h1]
   cases e with
   | exit id'=>
     simp only at h3 ⊢;split at h3
     . rename_i hv;rw[if_pos hv];exact⟨_,_,_,rfl,E',h2,h3⟩
     . rename_i hv;rw[if_neg hv];exact⟨_,_,_,rfl,E',h2,h3⟩
   |_=>exact⟨_,_,_,rfl,E',h2,h3⟩
 | loop a ih=>
   intro K E df H tm hf ho ha h;obtain⟨e,fr,H',h1,E',h2,h3⟩:=ih _ E df H tm hf ho ha h;rw[aN,h1]
   cases e with
   |normal=>exact h3 fr.tm h2
   |_=>exact⟨_,_,_,rfl,E',h2,h3⟩
 | scope a ih=>
   intro K E df H tm hf ho ha h;obtain⟨e,fr,H',h1,E',h2,h3⟩:=ih _ E df H tm hf ho ha h;rw[aN,h1]
   cases e with
   | goto l=>
     simp only at h3 ⊢;split at h3
     . rename_i hv;rw[hv];exact h3 fr.tm h2
     . rename_i hv;rw[hv];exact⟨_,_,_,rfl,E',h2,h3⟩
   |_=>exact⟨_,_,_,rfl,E',h2,h3⟩
 | b8 w a ihw ih=>
   intro K E df H tm hf ho ha h;simp only[aC.fits,Bool.and_eq_true]at hf;obtain⟨e,fr,H',h1,E',h2,h3⟩:=ih _ E df H tm hf.2 (ho.imp id fun h=>by simp only[aC.iD,Bool.and_eq_true]at h;exact h.2) ha h;rw[aN,h1]
   cases e with
   | goto l=>
     simp only at h3 ⊢;split at h3
     . rename_i hv;rw[hv];exact h3 fr.tm h2
     . rename_i hv;rw[hv];exact⟨_,_,_,rfl,E',h2,h3⟩
   |_=>exact⟨_,_,_,rfl,E',h2,h3⟩
 | range x ps as bd=>
   intro K E df H tm _ _ ha h;unfold aN;simp only[iE,ha.2];unfold wpc zm at h;have h:=h tm ha
   cases rd with
   | none=>
     simp only at h ⊢;split at h
     . rename_i f caps hx;rw[hx];simp only;split at h
       . rename_i v H2 hic;rw[hic];simp only;split at h
         . rename_i st pend tm' ps' as' bd' hrl;rw[hrl];obtain⟨k1,k2,k3⟩:=h;simp only;rw[if_neg (by simp[k1,k2])];exact⟨_,_,_,rfl,E,ha,k3⟩
         . exact h.elim
       . exact h.elim
     . exact h.elim
   | some l=>
     simp only at h ⊢;split at h
     . rename_i id df1 H1 heq;split at heq
       . rename_i hrl0;cases heq;rw[hrl0];simp only;split at h
         . rename_i f caps hx;rw[hx];simp only;split at h
           . rename_i v H2 hic;rw[hic];simp only;split at h
             . rename_i st pend tm' ps' as' bd' hrl;rw[hrl];obtain⟨k1,k2,k3⟩:=h;simp only;rw[if_neg (by simp[k1,k2])];exact⟨_,_,_,rfl,E,ha,k3⟩
             . exact h.elim
           . exact h.elim
         . exact h.elim
       . cases heq
     . exact h.elim
theorem Fm {tab:FuncId->Option av} {rd:Option Nat} {n:Nat} {c:aC} {K:KP} {E:Env} {df:List ADf} {H:ab} (hf:c.fits n=true) (ho:rd=none∨c.iD=true) (h:wpc (cbL tab) rd n c K E df H):pU (cbL tab) rd n c K E df H:=by
 intro tm ha;obtain⟨e,fr,H',h1,h2⟩:=nW c K E df H tm hf ho ha h;exact⟨e,fr,H',HQ h1,h2⟩
inductive Kt where
 |code (c:aC)
 |blk (id:Nat)
 |again (c:aC)
 |scp (w:aC)
def Ret (cb:CB) (rd:Option Nat) (n:Nat) (Q:KP):List Kt->KP
 |[],e,E,df,H=>Q e E df H
 | .code c::ks,.normal,E,df,H=>wpc cb rd n c (Ret cb rd n Q ks) E df H
 | .again c::ks,.normal,E,df,H=>pU cb rd n c (Ret cb rd n Q ks) E df H
 | .blk id::ks,.exit j,E,df,H=>if j=id then Ret cb rd n Q ks .normal E df H else Ret cb rd n Q ks (.exit j) E df H
 | .scp w::ks,.goto l,E,df,H=>match e8 w l with
   |some rest=>pU cb rd n (.b8 w rest) (Ret cb rd n Q ks) E df H
   |none=>Ret cb rd n Q ks (.goto l) E df H
 |_::ks,e,E,df,H=>Ret cb rd n Q ks e E df H
def RR (cb:CB) (rd:Option Nat) (n:Nat) (Q:KP) (ops:List ai) (ks:List Kt) (E:Env) (df:List ADf) (H:ab):Prop:=wpr cb (Ret cb rd n Q ks) ops E df H
section rules
variable {cb:CB} {rd:Option Nat} {n:Nat} {Q:KP} {ks:List Kt} {E:Env} {df:List ADf} {H:ab}
theorem zY {e:Ex}:Ret cb rd n Q [] e E df H=Q e E df H:=(rfl)
theorem xP:Ret cb rd n Q (.code .skip::ks) .normal E df H=Ret cb rd n Q ks .normal E df H:=(rfl)
theorem tT {l:Nat}:Ret cb rd n Q (.code (.label l)::ks) .normal E df H=Ret cb rd n Q ks .normal E df H:=(rfl)
theorem xS {id:Nat}:Ret cb rd n Q (.code (.exit id)::ks) .normal E df H=Ret cb rd n Q ks (.exit id) E df H:=(rfl)
theorem xy {l:Nat}:Ret cb rd n Q (.code (.goto l)::ks) .normal E df H=Ret cb rd n Q ks (.goto l) E df H:=(rfl)
theorem Af:Ret cb rd n Q (.code .ret::ks) .normal E df H=Ret cb rd n Q ks .ret E df H:=(rfl)
theorem o7 {ops:List ai}:Ret cb rd n Q (.code (.region ops)::ks) .normal E df H=RR cb rd n Q ops ks E df H:=(rfl)
theorem zW {a b:aC}:Ret cb rd n Q (.code (.seq a b)::ks) .normal E df H=Ret cb rd n Q (.code a:: .code b::ks) .normal E df H:=by
 show wpc cb rd n (.seq a b) _ E df H=wpc cb rd n a _ E df H
 rw[wpc];congr 1
 funext e E' df' H'
 cases e<;>rfl
theorem ue {a:aC} {id:Nat}:Ret cb rd n Q (.code (.block id a)::ks) .normal E df H=Ret cb rd n Q (.code a:: .blk id::ks) .normal E df H:=by
 show wpc cb rd n (.block id a) _ E df H=wpc cb rd n a _ E df H
 rw[wpc];congr 1
 funext e E' df' H'
 cases e<;>rfl
theorem fV {a:aC}:Ret cb rd n Q (.code (.loop a)::ks) .normal E df H=Ret cb rd n Q (.code a:: .again (.loop a)::ks) .normal E df H:=by
 show wpc cb rd n (.loop a) _ E df H=wpc cb rd n a _ E df H
 rw[wpc];congr 1
 funext e E' df' H'
 cases e<;>rfl
theorem s7 {a:aC}:Ret cb rd n Q (.code (.scope a)::ks) .normal E df H=Ret cb rd n Q (.code a:: .scp a::ks) .normal E df H:=by
 show wpc cb rd n (.scope a) _ E df H=wpc cb rd n a _ E df H
 rw[wpc];congr 1
 funext e E' df' H'
 cases e<;>rfl
theorem oH {w a:aC}:Ret cb rd n Q (.code (.b8 w a)::ks) .normal E df H=Ret cb rd n Q (.code a:: .scp w::ks) .normal E df H:=by
 show wpc cb rd n (.b8 w a) _ E df H=wpc cb rd n a _ E df H
 rw[wpc];congr 1
 funext e E' df' H'
 cases e<;>rfl
def xY (v:AV) (a b:aC) (cb:CB) (rd:Option Nat) (n:Nat) (Q:KP) (ks:List Kt) (E:Env) (df:List ADf) (H:ab):Prop:=
 match v with
 | .bool true=>Ret cb rd n Q (.code a::ks) .normal E df H
 | .bool false=>Ret cb rd n Q (.code b::ks) .normal E df H
 |_=>False
theorem xk {x:X} {a b:aC}:Ret cb rd n Q (.code (.cond x a b)::ks) .normal E df H=xY (x.evE E) a b cb rd n Q ks E df H:=(rfl)
theorem pY {a b:aC}:xY (.bool true) a b cb rd n Q ks E df H=Ret cb rd n Q (.code a::ks) .normal E df H:=(rfl)
theorem oq {a b:aC}:xY (.bool false) a b cb rd n Q ks E df H=Ret cb rd n Q (.code b::ks) .normal E df H:=(rfl)
theorem yu {p:Prop} [Decidable p] {a b:aC} (h:p):xY (.bool (decide p)) a b cb rd n Q ks E df H=Ret cb rd n Q (.code a::ks) .normal E df H:=by
 rw[decide_eq_true h];rfl
theorem wC {p:Prop} [Decidable p] {a b:aC} (h:¬p):xY (.bool (decide p)) a b cb rd n Q ks E df H=Ret cb rd n Q (.code b::ks) .normal E df H:=by
 rw[decide_eq_false h];rfl
theorem kI {c:aC} {j:Nat}:Ret cb rd n Q (.code c::ks) (.exit j) E df H=Ret cb rd n Q ks (.exit j) E df H:=(rfl)
theorem kQ {c:aC} {j:Nat}:Ret cb rd n Q (.code c::ks) (.goto j) E df H=Ret cb rd n Q ks (.goto j) E df H:=(rfl)
theorem mw {c:aC}:Ret cb rd n Q (.code c::ks) .ret E df H=Ret cb rd n Q ks .ret E df H:=(rfl)
theorem jH {c:aC} {p:List (AV×Bool)}:Ret cb rd n Q (.code c::ks) (.panic p) E df H=Ret cb rd n Q ks (.panic p) E df H:=(rfl)
theorem jP {c:aC} {j:Nat}:Ret cb rd n Q (.again c::ks) (.exit j) E df H=Ret cb rd n Q ks (.exit j) E df H:=(rfl)
theorem jR {c:aC} {j:Nat}:Ret cb rd n Q (.again c::ks) (.goto j) E df H=Ret cb rd n Q ks (.goto j) E df H:=(rfl)
theorem kL {c:aC}:Ret cb rd n Q (.again c::ks) .ret E df H=Ret cb rd n Q ks .ret E df H:=(rfl)
theorem jo {c:aC} {p:List (AV×Bool)}:Ret cb rd n Q (.again c::ks) (.panic p) E df H=Ret cb rd n Q ks (.panic p) E df H:=(rfl)
theorem jN {id:Nat}:Ret cb rd n Q (.blk id::ks) .normal E df H=Ret cb rd n Q ks .normal E df H:=(rfl)
theorem mE {id j:Nat}:Ret cb rd n Q (.blk id::ks) (.exit j) E df H=if j=id then Ret cb rd n Q ks .normal E df H else Ret cb rd n Q ks (.exit j) E df H:=(rfl)
theorem mP {id j:Nat}:Ret cb rd n Q (.blk id::ks) (.goto j) E df H=Ret cb rd n Q ks (.goto j) E df H:=(rfl)
theorem n7 {id:Nat}:Ret cb rd n Q (.blk id::ks) .ret E df H=Ret cb rd n Q ks .ret E df H:=(rfl)
theorem kD {id:Nat} {p:List (AV×Bool)}:Ret cb rd n Q (.blk id::ks) (.panic p) E df H=Ret cb rd n Q ks (.panic p) E df H:=(rfl)
theorem jK {w:aC}:Ret cb rd n Q (.scp w::ks) .normal E df H=Ret cb rd n Q ks .normal E df H:=(rfl)
theorem mr {w:aC} {j:Nat}:Ret cb rd n Q (.scp w::ks) (.exit j) E df H=Ret cb rd n Q ks (.exit j) E df H:=(rfl)
theorem oA {w:aC}:Ret cb rd n Q (.scp w::ks) .ret E df H=Ret cb rd n Q ks .ret E df H:=(rfl)
theorem kC {w:aC} {p:List (AV×Bool)}:Ret cb rd n Q (.scp w::ks) (.panic p) E df H=Ret cb rd n Q ks (.panic p) E df H:=(rfl)
theorem gE {w rest:aC} {l:Nat} (h:e8 w l=some rest):Ret cb rd n Q (.scp w::ks) (.goto l) E df H=Ret cb rd n Q (.again (.b8 w rest)::ks) .normal E df H:=by
 show(match e8 w l with|some rest=>pU cb rd n (.b8 w rest) (Ret cb rd n Q ks) E df H|none=>Ret cb rd n Q ks (.goto l) E df H)=_
 rw[h];rfl
theorem fQ {tab:FuncId->Option av} {c:aC} (hf:c.fits n=true) (ho:rd=none∨c.iD=true) (h:Ret (cbL tab) rd n Q (.code c::ks) .normal E df H):Ret (cbL tab) rd n Q (.again c::ks) .normal E df H:=Fm hf ho h
theorem ba {tab:FuncId->Option av} {α:Type} (P:α->Env->List ADf->ab->Prop) (m:α->Nat) (a0:α) {a:aC} (hf:a.fits n=true) (ho:rd=none∨a.iD=true) (h0:P a0 E df H)
   (step:∀x E df H,(∀y E' df' H',m y<m x->P y E' df' H'->Ret (cbL tab) rd n Q (.again (.loop a)::ks) .normal E' df' H')->P x E df H->Ret (cbL tab) rd n Q (.code a:: .again (.loop a)::ks) .normal E df H):
   Ret (cbL tab) rd n Q (.code (.loop a)::ks) .normal E df H:=by
 have key:∀k x E df H,m x<k->P x E df H->Ret (cbL tab) rd n Q (.code (.loop a)::ks) .normal E df H:=by
   intro k
   induction k with
   |zero=>intro x E df H h;omega
   | succ k ih=>
     intro x E df H hx hp;rw[fV];exact step x E df H (fun y E' df' H' hy hp'=>fQ hf ho (ih y E' df' H' (by omega) hp')) hp
 exact key _ a0 E df H (Nat.lt_succ_self _) h0
theorem Em:RR cb rd n Q [] ks E df H=Ret cb rd n Q ks .normal E df H:=(rfl)
def dK (o:Option AV) (d:Option Nat) (rest:List ai) (cb:CB) (rd:Option Nat) (n:Nat) (Q:KP) (ks:List Kt) (E:Env) (df:List ADf) (H:ab):Prop:=
 match o with
 |some v=>RR cb rd n Q rest ks (cN E d v) df H
 |none=>False
theorem tV {v:AV} {d:Option Nat} {rest:List ai}:dK (some v) d rest cb rd n Q ks E df H=RR cb rd n Q rest ks (cN E d v) df H:=(rfl)
def uW (o:Option (Out×ab)) (d:Option Nat) (rest:List ai) (cb:CB) (rd:Option Nat) (n:Nat) (Q:KP) (ks:List Kt) (E:Env) (df:List ADf):Prop:=
 match o with
 |some (.ret v,H')=>RR cb rd n Q rest ks (cN E d v) df H'
 |some (.pan c,H')=>Ret cb rd n Q ks (.panic c) E df H'
 |none=>False
theorem yc {v:AV} {H':ab} {d:Option Nat} {rest:List ai}:uW (some (.ret v,H')) d rest cb rd n Q ks E df=RR cb rd n Q rest ks (cN E d v) df H':=(rfl)
theorem wH {c:List (AV×Bool)} {H':ab} {d:Option Nat} {rest:List ai}:uW (some (.pan c,H')) d rest cb rd n Q ks E df=Ret cb rd n Q ks (.panic c) E df H':=(rfl)
def eH (o:Option (Nx×ab)) (d:Option Nat) (rest:List ai) (cb:CB) (rd:Option Nat) (n:Nat) (Q:KP) (ks:List Kt) (E:Env) (df:List ADf):Prop:=
 match o with
 |some (.val v,H')=>RR cb rd n Q rest ks (cN E d v) df H'
 |some (.skip,H')=>RR cb rd n Q rest ks (cN E d (.tup [])) df H'
 |some (.enter f args,H')=>uW (dS cb f args H') d rest cb rd n Q ks E df
 |some (.dR rw f args,H')=>uW (eJ cb rw f args H') d rest cb rd n Q ks E df
 |some (.yield id args,H')=>uW (cb.yl id args H') d rest cb rd n Q ks E df
 |some (.pan v,H')=>Ret cb rd n Q ks (.panic [(v,false)]) E df H'
 |some (.dfr q,H')=>RR cb rd n Q rest ks (cN E d (.tup [])) (q::df) H'
 |_=>False
theorem mW {v:AV} {H':ab} {d:Option Nat} {rest:List ai}:eH (some (.val v,H')) d rest cb rd n Q ks E df=RR cb rd n Q rest ks (cN E d v) df H':=(rfl)
theorem sk {H':ab} {d:Option Nat} {rest:List ai}:eH (some (.skip,H')) d rest cb rd n Q ks E df=RR cb rd n Q rest ks (cN E d (.tup [])) df H':=(rfl)
def zK (o:Option PR) (f:FuncId) (args:List AV) (H':ab) (d:Option Nat) (rest:List ai) (cb:CB) (rd:Option Nat) (n:Nat) (Q:KP) (ks:List Kt) (E:Env) (df:List ADf):Prop:=
 uW (match o with
   |some (.plain v)=>some (.ret v,H')
   |some (.fresh sz n cs)=>some (.ret (.sl sz n cs (.own H'.length)),H'++[.tok sz])
   |some (.iJ es)=>some (.ret (.mp H'.length),H'++[.map es])
   |some (.pan c)=>some (.pan c,H')
   |some (.rq _)=>none
   |none=>if cb.cj f then none else cb.ic f args H') d rest cb rd n Q ks E df
theorem qR {f:FuncId} {args:List AV} {H':ab} {d:Option Nat} {rest:List ai}:eH (some (.enter f args,H')) d rest cb rd n Q ks E df=zK (pcx cb f args H') f args H' d rest cb rd n Q ks E df:=(rfl)
theorem pN {v:AV} {f:FuncId} {args:List AV} {H':ab} {d:Option Nat} {rest:List ai}:zK (some (.plain v)) f args H' d rest cb rd n Q ks E df=RR cb rd n Q rest ks (cN E d v) df H':=(rfl)
theorem ru {sz n':Nat} {cs:List AV} {f:FuncId} {args:List AV} {H':ab} {d:Option Nat} {rest:List ai}:zK (some (.fresh sz n' cs)) f args H' d rest cb rd n Q ks E df=RR cb rd n Q rest ks (cN E d (.sl sz n' cs (.own H'.length))) df (H'++[.tok sz]):=(rfl)
theorem sP {es:List (AV×AV)} {f:FuncId} {args:List AV} {H':ab} {d:Option Nat} {rest:List ai}:zK (some (.iJ es)) f args H' d rest cb rd n Q ks E df=RR cb rd n Q rest ks (cN E d (.mp H'.length)) df (H'++[.map es]):=(rfl)
theorem wO {c:List (AV×Bool)} {f:FuncId} {args:List AV} {H':ab} {d:Option Nat} {rest:List ai}:zK (some (.pan c)) f args H' d rest cb rd n Q ks E df=Ret cb rd n Q ks (.panic c) E df H':=(rfl)
theorem aB {f:FuncId} {args:List AV} {H':ab} {d:Option Nat} {rest:List ai} (hl:cb.cj f=false):zK none f args H' d rest cb rd n Q ks E df=uW (cb.ic f args H') d rest cb rd n Q ks E df:=by
 simp only[zK,hl,Bool.false_eq_true,if_false]
theorem ov {rw:Bool} {f:FuncId} {args:List AV} {H':ab} {d:Option Nat} {rest:List ai}:eH (some (.dR rw f args,H')) d rest cb rd n Q ks E df=uW (eJ cb rw f args H') d rest cb rd n Q ks E df:=(rfl)
theorem p6 {id:Nat} {args:List AV} {H':ab} {d:Option Nat} {rest:List ai}:eH (some (.yield id args,H')) d rest cb rd n Q ks E df=uW (cb.yl id args H') d rest cb rd n Q ks E df:=(rfl)
theorem yM {v:AV} {H':ab} {d:Option Nat} {rest:List ai}:eH (some (.pan v,H')) d rest cb rd n Q ks E df=Ret cb rd n Q ks (.panic [(v,false)]) E df H':=(rfl)
theorem x9 {q:ADf} {H':ab} {d:Option Nat} {rest:List ai}:eH (some (.dfr q,H')) d rest cb rd n Q ks E df=RR cb rd n Q rest ks (cN E d (.tup [])) (q::df) H':=(rfl)
def AOp.pure:AOp->Bool
 | .mv _=>true
 | .pick _ _ _=>true
 | .build _ _=>true
 | .bc _ _ _ _=>true
 | .iA _ _ _ _=>true
 | .mm _ _ _=>true
 | .load _ _ _=>true
 | .fld _ _=>true
 | .part _ _ _ _=>true
 | .ixa _ _ _=>true
 | .bk _ _ _ _=>true
 | .ixv _ _ _ _ _=>true
 | .ixs _ _=>true
 | .bin _ _ _ _=>true
 | .un _ _=>true
 | .conv _ _=>true
 | .mX _ _=>true
 | .gn _ _=>true
 | .chk _ _=>true
 | .pK _=>true
 | .wR _ _ _ _=>true
 | .lookup _ _ _ _ _=>true
 | .eV _ _ _ _=>true
 | .ext _ _=>true
 | .slice _ _ _ _=>true
 | .fD _ _ _=>true
 | .oQ _ _ _ _ _=>true
 | .len _ _=>true
 | .bh _=>true
 | .alloc _=>false
 | .box _=>false
 | .store _ _ _=>false
 | .jq=>false
 | .iF _ _ _ _=>false
 | .append _ _ _ _=>false
 | .ja _ _ _ _=>false
 | .fU _ _ _ _=>false
 | .bM _ _=>false
 | .ju _ _ _=>false
 | .ct _ _=>false
 | .fA=>false
 | .panic _=>false
 | .dfr _ _=>false
 | .fR _ _ _ _ _=>true
 | .jn _ _=>true
 | .rX _ _=>true
 | .vo _ _=>true
 | .oN _ _ _ _=>false
 | .jk _ _ _ _ _=>false
 | .clr _ _ _=>false
 | .cpy _ _ _=>false
 | .mM _ _=>false
 | .rU _=>false
 | .kE _ _ _ _ _=>true
 | .mO _ _=>true
 | .eW _ _ _ _ _=>false
 | .oh _ _ _ _=>false
 | .vm _ _ _ _ _=>false
theorem rE {K:KP} {d:Option Nat} {op:AOp} {rest:List ai}:wpr cb K (⟨d,op,none⟩::rest) E df H=
   match aw op E H with
     |some v=>wpr cb K rest (cN E d v) df H
     | none=>
       match a8 op E H with
       |some (.val v,H')=>wpr cb K rest (cN E d v) df H'
       |some (.skip,H')=>wpr cb K rest (cN E d (.tup [])) df H'
       | some (.enter f args,H')=>
         match dS cb f args H' with
         |some (.ret v,H'')=>wpr cb K rest (cN E d v) df H''
         |some (.pan c,H'')=>K (.panic c) E df H''
         |none=>False
       | some (.dR rw f args,H')=>
         match eJ cb rw f args H' with
         |some (.ret v,H'')=>wpr cb K rest (cN E d v) df H''
         |some (.pan c,H'')=>K (.panic c) E df H''
         |none=>False
       | some (.yield id args,H')=>
         match cb.yl id args H' with
         |some (.ret v,H'')=>wpr cb K rest (cN E d v) df H''
         |some (.pan c,H'')=>K (.panic c) E df H''
         |none=>False
       |some (.pan v,H')=>K (.panic [(v,false)]) E df H'
       |some (.dfr q,H')=>wpr cb K rest (cN E d (.tup [])) (q::df) H'
       |_=>False:=by
 rw[wpr];simp only[db,if_true]
theorem bg {d:Option Nat} {op:AOp} {rest:List ai} (h:op.pure=true):RR cb rd n Q (⟨d,op,none⟩::rest) ks E df H=dK (aw op E H) d rest cb rd n Q ks E df H:=by
 show wpr cb _ _ E df H=_
 rw[rE]
 cases hv:aw op E H with
 |some v=>rfl
 |none=>cases op<;>first|rfl|(cases h;done)|(cases hl;done)
theorem du {d:Option Nat} {op:AOp} {rest:List ai} (h:op.pure=false):RR cb rd n Q (⟨d,op,none⟩::rest) ks E df H=eH (a8 op E H) d rest cb rd n Q ks E df:=by
 show wpr cb _ _ E df H=_
 rw[rE]
 have hv:aw op E H=none:=by cases op<;>first|rfl|cases h
 rw[hv];simp only
 cases hx:a8 op E H with
 |none=>rfl
 | some q=>
   obtain⟨q,H'⟩:=q
   cases q with
   | enter f args=>
     simp only[eH]
     cases hy:dS cb f args H' with
     |none=>rfl
     |some r=>obtain⟨r,H''⟩:=r;cases r<;>rfl
   | dR rw f args=>
     simp only[eH]
     cases hy:eJ cb rw f args H' with
     |none=>rfl
     |some r=>obtain⟨r,H''⟩:=r;cases r<;>rfl
   | yield f args=>
     simp only[eH]
     cases hy:cb.yl f args H' with
     |none=>rfl
     |some r=>obtain⟨r,H''⟩:=r;cases r<;>rfl
   |_=>rfl
theorem K8 {x:X} {d:Option Nat} {rest:List ai}:RR cb rd n Q (⟨d,.mv x,none⟩::rest) ks E df H=dK (aw (.mv x) E H) d rest cb rd n Q ks E df H:=bg rfl
theorem AH {c:X} {a:X} {b:X} {d:Option Nat} {rest:List ai}:RR cb rd n Q (⟨d,.pick c a b,none⟩::rest) ks E df H=dK (aw (.pick c a b) E H) d rest cb rd n Q ks E df H:=bg rfl
theorem v5 {zs:List AV} {ps:List (Nat×Nat×X)} {d:Option Nat} {rest:List ai}:RR cb rd n Q (⟨d,.build zs ps,none⟩::rest) ks E df H=dK (aw (.build zs ps) E H) d rest cb rd n Q ks E df H:=bg rfl
theorem r9 {sz:Nat} {len:Nat} {zs:List AV} {ps:List (Nat×Nat×X)} {d:Option Nat} {rest:List ai}:RR cb rd n Q (⟨d,.iA sz len zs ps,none⟩::rest) ks E df H=dK (aw (.iA sz len zs ps) E H) d rest cb rd n Q ks E df H:=bg rfl
theorem Ln {mx:Bool} {x:X} {y:X} {d:Option Nat} {rest:List ai}:RR cb rd n Q (⟨d,.mm mx x y,none⟩::rest) ks E df H=dK (aw (.mm mx x y) E H) d rest cb rd n Q ks E df H:=bg rfl
theorem tP {sz:Nat} {len:Nat} {zs:List AV} {ps:List (Nat×Nat×X)} {d:Option Nat} {rest:List ai}:RR cb rd n Q (⟨d,.bc sz len zs ps,none⟩::rest) ks E df H=dK (aw (.bc sz len zs ps) E H) d rest cb rd n Q ks E df H:=bg rfl
theorem A0 {sz:Nat} {ag:Bool} {x:X} {d:Option Nat} {rest:List ai}:RR cb rd n Q (⟨d,.load sz ag x,none⟩::rest) ks E df H=dK (aw (.load sz ag x) E H) d rest cb rd n Q ks E df H:=bg rfl
theorem Gf {off:Nat} {x:X} {d:Option Nat} {rest:List ai}:RR cb rd n Q (⟨d,.fld off x,none⟩::rest) ks E df H=dK (aw (.fld off x) E H) d rest cb rd n Q ks E df H:=bg rfl
theorem AE {off:Nat} {sz:Nat} {ag:Bool} {x:X} {d:Option Nat} {rest:List ai}:RR cb rd n Q (⟨d,.part off sz ag x,none⟩::rest) ks E df H=dK (aw (.part off sz ag x) E H) d rest cb rd n Q ks E df H:=bg rfl
theorem Hq {sz:Nat} {x:X} {i:X} {d:Option Nat} {rest:List ai}:RR cb rd n Q (⟨d,.ixa sz x i,none⟩::rest) ks E df H=dK (aw (.ixa sz x i) E H) d rest cb rd n Q ks E df H:=bg rfl
theorem wh {n0:Nat} {sz:Nat} {x:X} {i:X} {d:Option Nat} {rest:List ai}:RR cb rd n Q (⟨d,.bk n0 sz x i,none⟩::rest) ks E df H=dK (aw (.bk n0 sz x i) E H) d rest cb rd n Q ks E df H:=bg rfl
theorem D6 {n0:Nat} {sz:Nat} {ag:Bool} {x:X} {i:X} {d:Option Nat} {rest:List ai}:RR cb rd n Q (⟨d,.ixv n0 sz ag x i,none⟩::rest) ks E df H=dK (aw (.ixv n0 sz ag x i) E H) d rest cb rd n Q ks E df H:=bg rfl
theorem FO {x:X} {i:X} {d:Option Nat} {rest:List ai}:RR cb rd n Q (⟨d,.ixs x i,none⟩::rest) ks E df H=dK (aw (.ixs x i) E H) d rest cb rd n Q ks E df H:=bg rfl
theorem EW {op:BinOp} {ek:EqK} {x:X} {y:X} {d:Option Nat} {rest:List ai}:RR cb rd n Q (⟨d,.bin op ek x y,none⟩::rest) ks E df H=dK (aw (.bin op ek x y) E H) d rest cb rd n Q ks E df H:=bg rfl
theorem Lw {uop:UnOp} {x:X} {d:Option Nat} {rest:List ai}:RR cb rd n Q (⟨d,.un uop x,none⟩::rest) ks E df H=dK (aw (.un uop x) E H) d rest cb rd n Q ks E df H:=bg rfl
theorem BJ {cv:CvK} {x:X} {d:Option Nat} {rest:List ai}:RR cb rd n Q (⟨d,.conv cv x,none⟩::rest) ks E df H=dK (aw (.conv cv x) E H) d rest cb rd n Q ks E df H:=bg rfl
theorem Bq {ty:TypeId} {x:X} {d:Option Nat} {rest:List ai}:RR cb rd n Q (⟨d,.mX ty x,none⟩::rest) ks E df H=dK (aw (.mX ty x) E H) d rest cb rd n Q ks E df H:=bg rfl
theorem z5 {f:FuncId} {xs:List X} {d:Option Nat} {rest:List ai}:RR cb rd n Q (⟨d,.gn f xs,none⟩::rest) ks E df H=dK (aw (.gn f xs) E H) d rest cb rd n Q ks E df H:=bg rfl
theorem tM {kk:Nat} {zero:AV} {x:X} {i:X} {ok:Bool} {d:Option Nat} {rest:List ai}:RR cb rd n Q (⟨d,.lookup kk zero x i ok,none⟩::rest) ks E df H=dK (aw (.lookup kk zero x i ok) E H) d rest cb rd n Q ks E df H:=bg rfl
theorem pZ {ty:TypeId} {zero:AV} {x:X} {ok:Bool} {d:Option Nat} {rest:List ai}:RR cb rd n Q (⟨d,.eV ty zero x ok,none⟩::rest) ks E df H=dK (aw (.eV ty zero x ok) E H) d rest cb rd n Q ks E df H:=bg rfl
theorem Hr {x:X} {j:Nat} {d:Option Nat} {rest:List ai}:RR cb rd n Q (⟨d,.ext x j,none⟩::rest) ks E df H=dK (aw (.ext x j) E H) d rest cb rd n Q ks E df H:=bg rfl
theorem xL {sz:Nat} {x:X} {lo:Option X} {hi:Option X} {d:Option Nat} {rest:List ai}:RR cb rd n Q (⟨d,.slice sz x lo hi,none⟩::rest) ks E df H=dK (aw (.slice sz x lo hi) E H) d rest cb rd n Q ks E df H:=bg rfl
theorem Bf {sz:Nat} {x:X} {lo:Option X} {hi:Option X} {mx:Option X} {d:Option Nat} {rest:List ai}:RR cb rd n Q (⟨d,.oQ sz x lo hi mx,none⟩::rest) ks E df H=dK (aw (.oQ sz x lo hi mx) E H) d rest cb rd n Q ks E df H:=bg rfl
theorem yt {x:X} {lo:Option X} {hi:Option X} {d:Option Nat} {rest:List ai}:RR cb rd n Q (⟨d,.fD x lo hi,none⟩::rest) ks E df H=dK (aw (.fD x lo hi) E H) d rest cb rd n Q ks E df H:=bg rfl
theorem Fq {k:Nat} {x:X} {d:Option Nat} {rest:List ai}:RR cb rd n Q (⟨d,.len k x,none⟩::rest) ks E df H=dK (aw (.len k x) E H) d rest cb rd n Q ks E df H:=bg rfl
theorem xr {x:X} {d:Option Nat} {rest:List ai}:RR cb rd n Q (⟨d,.bh x,none⟩::rest) ks E df H=dK (aw (.bh x) E H) d rest cb rd n Q ks E df H:=bg rfl
theorem yv {zs:List AV} {d:Option Nat} {rest:List ai}:RR cb rd n Q (⟨d,.alloc zs,none⟩::rest) ks E df H=eH (a8 (.alloc zs) E H) d rest cb rd n Q ks E df:=du rfl
theorem FU {x:X} {d:Option Nat} {rest:List ai}:RR cb rd n Q (⟨d,.box x,none⟩::rest) ks E df H=eH (a8 (.box x) E H) d rest cb rd n Q ks E df:=du rfl
theorem vF {sz:Nat} {a:X} {v:X} {d:Option Nat} {rest:List ai}:RR cb rd n Q (⟨d,.store sz a v,none⟩::rest) ks E df H=eH (a8 (.store sz a v) E H) d rest cb rd n Q ks E df:=du rfl
theorem xm {d:Option Nat} {rest:List ai}:RR cb rd n Q (⟨d,.jq,none⟩::rest) ks E df H=eH (a8 (.jq) E H) d rest cb rd n Q ks E df:=du rfl
theorem xZ {kk:Nat} {x:X} {k:X} {v:X} {d:Option Nat} {rest:List ai}:RR cb rd n Q (⟨d,.iF kk x k v,none⟩::rest) ks E df H=eH (a8 (.iF kk x k v) E H) d rest cb rd n Q ks E df:=du rfl
theorem vO {sz m:Nat} {cs:List AV} {tk:Tk}:rowOf H (.sl sz m cs tk)= .sl sz m cs tk:=rfl
theorem tj {sz:Nat} {bytes:Nat} {x:X} {y:X} {d:Option Nat} {rest:List ai}:RR cb rd n Q (⟨d,.append sz bytes x y,none⟩::rest) ks E df H=eH (fJ sz bytes (x.evE E) (rowOf H (y.evE E)) H) d rest cb rd n Q ks E df:=du rfl
def Ar (sz bytes:Nat) (zs:List AV) (x n:AV) (H:ab):Option (Nx×ab):=
 match x,gh sz bytes zs n n with
 | .sl sz' k cs (.own g),some m=>fJ sz bytes (.sl sz' k cs (.own g)) (.sl sz m (cc m zs) .ro) H
 | .rsl sz' id k,some m=>nL sz bytes (.rsl sz' id k) (.sl sz m (cc m zs) .ro) H
 |_,_=>none
theorem rh {sz:Nat} {bytes:Nat} {x:X} {y:X} {d:Option Nat} {rest:List ai}:RR cb rd n Q (⟨d,.fU sz bytes x y,none⟩::rest) ks E df H=eH (nL sz bytes (x.evE E) (y.evE E) H) d rest cb rd n Q ks E df:=du rfl
theorem AB {sz:Nat} {bytes:Nat} {zs:List AV} {x:X} {y:X} {d:Option Nat} {rest:List ai}:RR cb rd n Q (⟨d,.vm sz bytes zs x y,none⟩::rest) ks E df H=eH (Ar sz bytes zs (x.evE E) (y.evE E) H) d rest cb rd n Q ks E df:=du rfl
theorem vE {sz len:Nat} {zs:List AV} {ps:List (Nat×Nat×X)} {d:Option Nat} {rest:List ai}:RR cb rd n Q (⟨d,.oh sz len zs ps,none⟩::rest) ks E df H=eH (a8 (.oh sz len zs ps) E H) d rest cb rd n Q ks E df:=du rfl
theorem oE {sz:Nat} {bytes:Nat} {zs:List AV} {x:X} {y:X} {d:Option Nat} {rest:List ai}:RR cb rd n Q (⟨d,.eW sz bytes zs x y,none⟩::rest) ks E df H=eH (a8 (.eW sz bytes zs x y) E H) d rest cb rd n Q ks E df:=du rfl
theorem pV {sz:Nat} {bytes:Nat} {zs:List AV} {x:X} {y:X} {d:Option Nat} {rest:List ai}:RR cb rd n Q (⟨d,.fR sz bytes zs x y,none⟩::rest) ks E df H=dK (aw (.fR sz bytes zs x y) E H) d rest cb rd n Q ks E df H:=bg rfl
theorem Bv {sz bytes:Nat} {x y:X} {d:Option Nat} {rest:List ai}:RR cb rd n Q (⟨d,.wR sz bytes x y,none⟩::rest) ks E df H=dK (aw (.wR sz bytes x y) E H) d rest cb rd n Q ks E df H:=bg rfl
theorem BB {x:X} {d:Option Nat} {rest:List ai}:RR cb rd n Q (⟨d,.pK x,none⟩::rest) ks E df H=dK (aw (.pK x) E H) d rest cb rd n Q ks E df H:=bg rfl
theorem Gr {lx sx:List X} {d:Option Nat} {rest:List ai}:RR cb rd n Q (⟨d,.chk lx sx,none⟩::rest) ks E df H=dK (aw (.chk lx sx) E H) d rest cb rd n Q ks E df H:=bg rfl
theorem yK {id:Nat}:ko id []=true:=rfl
theorem wJ {id id' o:Nat} {r:List AV} (h:id'≠id):ko id (.ptr id' o::r)=ko id r:=by simp[ko,h]
theorem qU {ss:List AV}:cy [] ss=true:=by cases ss<;>rfl
theorem xV {cs r ss:List AV}:cy (.bX cs::r) ss=cy r ss:=by cases ss<;>rfl
theorem xG {id o:Nat} {r ss:List AV} (h:ko id ss=true):cy (.ptr id o::r) ss=cy r ss:=by cases ss<;>simp[cy,h]
theorem wB {f:FuncId} {xs:List X} {d:Option Nat} {rest:List ai}:RR cb rd n Q (⟨d,.jn f xs,none⟩::rest) ks E df H=dK (aw (.jn f xs) E H) d rest cb rd n Q ks E df H:=bg rfl
theorem wi {n0 sz:Nat} {x:X} {lo hi:Option X} {d:Option Nat} {rest:List ai}:RR cb rd n Q (⟨d,.kE n0 sz x lo hi,none⟩::rest) ks E df H=dK (aw (.kE n0 sz x lo hi) E H) d rest cb rd n Q ks E df H:=bg rfl
theorem vT {n0:Nat} {x:X} {d:Option Nat} {rest:List ai}:RR cb rd n Q (⟨d,.mO n0 x,none⟩::rest) ks E df H=dK (aw (.mO n0 x) E H) d rest cb rd n Q ks E df H:=bg rfl
theorem Hk {sz:Nat} {zs:List AV} {x:X} {d:Option Nat} {rest:List ai}:RR cb rd n Q (⟨d,.clr sz zs x,none⟩::rest) ks E df H=eH (a8 (.clr sz zs x) E H) d rest cb rd n Q ks E df:=du rfl
theorem H5 {sz:Nat} {x y:X} {d:Option Nat} {rest:List ai}:RR cb rd n Q (⟨d,.cpy sz x y,none⟩::rest) ks E df H=eH (a8 (.cpy sz x y) E H) d rest cb rd n Q ks E df:=du rfl
theorem Ap {x y:X} {d:Option Nat} {rest:List ai}:RR cb rd n Q (⟨d,.vo x y,none⟩::rest) ks E df H=dK (aw (.vo x y) E H) d rest cb rd n Q ks E df H:=bg rfl
theorem Bx {x y:X} {d:Option Nat} {rest:List ai}:RR cb rd n Q (⟨d,.rX x y,none⟩::rest) ks E df H=dK (aw (.rX x y) E H) d rest cb rd n Q ks E df H:=bg rfl
theorem pR {sz:Nat} {bytes:Nat} {x:X} {y:X} {d:Option Nat} {rest:List ai}:RR cb rd n Q (⟨d,.ja sz bytes x y,none⟩::rest) ks E df H=eH (a8 (.ja sz bytes x y) E H) d rest cb rd n Q ks E df:=du rfl
theorem wZ {f:FuncId} {xs:List X} {d:Option Nat} {rest:List ai}:RR cb rd n Q (⟨d,.bM f xs,none⟩::rest) ks E df H=eH (a8 (.bM f xs) E H) d rest cb rd n Q ks E df:=du rfl
theorem vR {rw:Bool} {f:FuncId} {xs:List X} {d:Option Nat} {rest:List ai}:RR cb rd n Q (⟨d,.ju rw f xs,none⟩::rest) ks E df H=eH (a8 (.ju rw f xs) E H) d rest cb rd n Q ks E df:=du rfl
theorem xw {x:X} {xs:List X} {d:Option Nat} {rest:List ai}:RR cb rd n Q (⟨d,.ct x xs,none⟩::rest) ks E df H=eH (a8 (.ct x xs) E H) d rest cb rd n Q ks E df:=du rfl
theorem vW {d:Option Nat} {rest:List ai}:RR cb rd n Q (⟨d,.fA,none⟩::rest) ks E df H=eH (a8 (.fA) E H) d rest cb rd n Q ks E df:=du rfl
theorem wu {x:X} {d:Option Nat} {rest:List ai}:RR cb rd n Q (⟨d,.panic x,none⟩::rest) ks E df H=eH (a8 (.panic x) E H) d rest cb rd n Q ks E df:=du rfl
theorem Hp {x:X} {xs:List X} {d:Option Nat} {rest:List ai}:RR cb rd n Q (⟨d,.dfr x xs,none⟩::rest) ks E df H=eH (a8 (.dfr x xs) E H) d rest cb rd n Q ks E df:=du rfl
def rR (v:AV) (b:Bool) (d:Option Nat) (op:AOp) (rest:List ai) (cb:CB) (rd:Option Nat) (n:Nat) (Q:KP) (ks:List Kt) (E:Env) (df:List ADf) (H:ab):Prop:=
 match v with
 | .bool b'=>if b'=b then RR cb rd n Q (⟨d,op,none⟩::rest) ks E df H else RR cb rd n Q rest ks (cN E d (.tup [])) df H
 |_=>RR cb rd n Q rest ks (cN E d (.tup [])) df H
theorem xc {t:Nat} {b:Bool} {d:Option Nat} {op:AOp} {rest:List ai}:RR cb rd n Q (⟨d,op,some (t,b)⟩::rest) ks E df H=rR (E t) b d op rest cb rd n Q ks E df H:=by
 show wpr cb _ _ E df H=_
 cases ht:E t with
 | bool b'=>
   by_cases hb:b'=b
   . show _=(if b'=b then RR cb rd n Q (⟨d,op,none⟩::rest) ks E df H else _)
     rw[if_pos hb];show _=wpr cb _ _ E df H
     rw[wpr,rE];simp only[db,ht,hb,beq_self_eq_true,if_true]
   . show _=(if b'=b then _ else RR cb rd n Q rest ks (cN E d (.tup [])) df H)
     rw[if_neg hb,wpr];simp only[db,ht,beq_eq_false_iff_ne.2 hb,Bool.false_eq_true,if_false];rfl
 | _=>
   rw[wpr];simp only[db,ht,Bool.false_eq_true,if_false];rfl
theorem AP {d:Option Nat} {op:AOp} {rest:List ai}:rR (.bool true) true d op rest cb rd n Q ks E df H=RR cb rd n Q (⟨d,op,none⟩::rest) ks E df H:=(rfl)
theorem As {d:Option Nat} {op:AOp} {rest:List ai}:rR (.bool false) false d op rest cb rd n Q ks E df H=RR cb rd n Q (⟨d,op,none⟩::rest) ks E df H:=(rfl)
theorem AN {d:Option Nat} {op:AOp} {rest:List ai}:rR (.bool true) false d op rest cb rd n Q ks E df H=RR cb rd n Q rest ks (cN E d (.tup [])) df H:=(rfl)
theorem z8 {d:Option Nat} {op:AOp} {rest:List ai}:rR (.bool false) true d op rest cb rd n Q ks E df H=RR cb rd n Q rest ks (cN E d (.tup [])) df H:=(rfl)
section
variable {p:Prop} [Decidable p]
theorem xf {d:Option Nat} {op:AOp} {rest:List ai} (h:p):rR (.bool (decide p)) true d op rest cb rd n Q ks E df H=RR cb rd n Q (⟨d,op,none⟩::rest) ks E df H:=by rw[decide_eq_true h];rfl
theorem xI {d:Option Nat} {op:AOp} {rest:List ai} (h:¬p):rR (.bool (decide p)) false d op rest cb rd n Q ks E df H=RR cb rd n Q (⟨d,op,none⟩::rest) ks E df H:=by rw[decide_eq_false h];rfl
theorem v7 {d:Option Nat} {op:AOp} {rest:List ai} (h:p):rR (.bool (decide p)) false d op rest cb rd n Q ks E df H=RR cb rd n Q rest ks (cN E d (.tup [])) df H:=by rw[decide_eq_true h];rfl
theorem wD {d:Option Nat} {op:AOp} {rest:List ai} (h:¬p):rR (.bool (decide p)) true d op rest cb rd n Q ks E df H=RR cb rd n Q rest ks (cN E d (.tup [])) df H:=by rw[decide_eq_false h];rfl
end
def RP (cb:CB) (rd:Option Nat) (n:Nat) (Q:KP) (pre tail:List ai) (e:List aj) (ks:List Kt) (E:Env) (df:List ADf) (H:ab):Prop:=
 zQ cb H (fun E' e=>wpr cb (Ret cb rd n Q ks) tail E' df (H++e)) pre E e
theorem tw {pre tail:List ai}:Ret cb rd n Q (.code (.drawn pre tail)::ks) .normal E df H=RP cb rd n Q pre tail [] ks E df H:=(rfl)
theorem tv (H:ab):lV H []=H:=List.append_nil H
theorem qS (H:ab) (g:aj) (e:List aj):lV H (g::e)=H++(g::e):=(rfl)
theorem GK {tail:List ai} {e:List aj}:RP cb rd n Q [] tail e ks E df H=RR cb rd n Q tail ks E df (lV H e):=(rfl)
def BE (o:Option (AV×Option aj)) (q:Option Nat) (d:Option Nat) (rest tail:List ai) (e:List aj) (cb:CB) (rd:Option Nat) (n:Nat) (Q:KP) (ks:List Kt) (E:Env) (df:List ADf) (H:ab):Prop:=
 match o with
 |some (v,k)=>RP cb rd n Q rest tail (kR H.length q (e++k.toList)) ks (cN E d v) df H
 |none=>False
theorem AU {o:ai} {rest tail:List ai} {e:List aj}:RP cb rd n Q (o::rest) tail e ks E df H=BE (cq cb H (lV H e) o E (H.length+e.length)) (qV o E) o.dst rest tail e cb rd n Q ks E df H:=by
 show zQ cb H _ (o::rest) E e=_
 rw[zQ]
 cases cq cb H (lV H e) o E (H.length+e.length)with
 |none=>rfl
 |some q=>rfl
theorem yA {d:Option Nat} {op:AOp} {g:Option (Nat×Bool)}:qV ⟨d,op,g⟩ E=(match op with
 | .jk _ _ _ x _=>if db E g then(match x.evE E with
   | .sl _ _ _ (.own g0)=>some g0
   |_=>none)else none
 |_=>none):=(rfl)
theorem oD {v:AV} {d:Option Nat} {rest tail:List ai} {e:List aj}:BE (some (v,none)) none d rest tail e cb rd n Q ks E df H=RP cb rd n Q rest tail e ks (cN E d v) df H:=by
 show RP cb rd n Q rest tail (e++[]) ks _ df H=_
 rw[List.append_nil]
theorem oe {v:AV} {k:aj} {d:Option Nat} {rest tail:List ai} {e:List aj}:BE (some (v,some k)) none d rest tail e cb rd n Q ks E df H=RP cb rd n Q rest tail (e++[k]) ks (cN E d v) df H:=(rfl)
theorem qM {v:AV} {k:aj} {g0:Nat} {d:Option Nat} {rest tail:List ai} {e:List aj}:BE (some (v,some k)) (some g0) d rest tail e cb rd n Q ks E df H=RP cb rd n Q rest tail ((e++[k]).set (g0-H.length) .dead) ks (cN E d v) df H:=(rfl)
def prW (o:Option PR) (g:Nat):Option (AV×Option aj):=
 match o with
 |some (.fresh sz n cs)=>if cs.all (·.lH)&&cs.length==n*sz then some (.msl sz g 0 n,some (.cells cs))else none
 |_=>none
theorem xi {G:ab} {f:FuncId} {args:List X} {d:Option Nat} {g:Nat}:cq cb H G ⟨d,.mM f args,none⟩ E g=prW (pcx cb f (args.map (·.evE E)) H) g:=(rfl)
theorem AD {G:ab} {x:X} {d:Option Nat} {g:Nat}:cq cb H G ⟨d,.rU x,none⟩ E g=if au (x.evE E).flat then some (.ptr g 0,some (.cells (x.evE E).flat))else none:=(rfl)
theorem Be {G:ab} {sz bytes:Nat} {x y:X} {d:Option Nat} {g:Nat}:cq cb H G ⟨d,.oN sz bytes x y,none⟩ E g=kZ sz bytes (x.evE E) (y.evE E) g:=(rfl)
theorem z6 {G:ab} {sz bytes:Nat} {zs:List AV} {x y:X} {d:Option Nat} {g:Nat}:cq cb H G ⟨d,.jk sz bytes zs x y,none⟩ E g=mD H.length sz bytes zs (x.evE E) (y.evE E) G g:=(rfl)
theorem ma:db E none=true:=(rfl)
def cf (o:Option AV):Option (AV×Option aj):=
 match o with
 |some v=>some (v,none)
 |none=>none
theorem qZ {v:AV}:cf (some v)=some (v,none):=(rfl)
def prP (o:Option PR) (g:Nat):Option (AV×Option aj):=
 match o with
 |some (.plain v)=>some (v,none)
 |some (.fresh sz n cs)=>some (.sl sz n cs (.own g),some (.tok sz))
 |some (.iJ es)=>some (.mp g,some (.map es))
 |_=>none
theorem xj {es:List (AV×AV)} {g:Nat}:prP (some (.iJ es)) g=some (.mp g,some (.map es)):=(rfl)
theorem sW {v:AV} {g:Nat}:prP (some (.plain v)) g=some (v,none):=(rfl)
theorem tO {sz n g:Nat} {cs:List AV}:prP (some (.fresh sz n cs)) g=some (.sl sz n cs (.own g),some (.tok sz)):=(rfl)
def AOp.Mk:AOp->Bool
 | .lookup .. =>false
 |_=>true
def DI (o q:Option AV):Option (AV×Option aj):=
 match o with
 |some v=>some (v,none)
 |none=>cf q
theorem pQ {v:AV} {q:Option AV}:DI (some v) q=some (v,none):=(rfl)
theorem pP {q:Option AV}:DI none q=cf q:=(rfl)
theorem aR {G:ab} {d:Option Nat} {op:AOp} {g:Nat} (h:op.pure=true) (hl:op.Mk=true:=by rfl):cq cb H G ⟨d,op,none⟩ E g=cf (aw op E H):=by
 simp only[cq,db,if_true]
 cases hv:aw op E H with
 |some v=>rfl
 |none=>cases op<;>first|rfl|(cases h;done)|(cases hl;done)
theorem LB {G:ab} {x:X} {d:Option Nat} {g:Nat}:cq cb H G ⟨d,.mv x,none⟩ E g=cf (aw (.mv x) E H):=aR rfl
theorem BR {G:ab} {c:X} {a:X} {b:X} {d:Option Nat} {g:Nat}:cq cb H G ⟨d,.pick c a b,none⟩ E g=cf (aw (.pick c a b) E H):=aR rfl
theorem vU {G:ab} {zs:List AV} {ps:List (Nat×Nat×X)} {d:Option Nat} {g:Nat}:cq cb H G ⟨d,.build zs ps,none⟩ E g=cf (aw (.build zs ps) E H):=aR rfl
theorem uc {G:ab} {sz:Nat} {len:Nat} {zs:List AV} {ps:List (Nat×Nat×X)} {d:Option Nat} {g:Nat}:cq cb H G ⟨d,.iA sz len zs ps,none⟩ E g=cf (aw (.iA sz len zs ps) E H):=aR rfl
theorem Lj {G:ab} {mx:Bool} {x:X} {y:X} {d:Option Nat} {g:Nat}:cq cb H G ⟨d,.mm mx x y,none⟩ E g=cf (aw (.mm mx x y) E H):=aR rfl
theorem tE {G:ab} {sz:Nat} {len:Nat} {zs:List AV} {ps:List (Nat×Nat×X)} {d:Option Nat} {g:Nat}:cq cb H G ⟨d,.bc sz len zs ps,none⟩ E g=cf (aw (.bc sz len zs ps) E H):=aR rfl
theorem Aq {G:ab} {sz:Nat} {ag:Bool} {x:X} {d:Option Nat} {g:Nat}:cq cb H G ⟨d,.load sz ag x,none⟩ E g=cf (aw (.load sz ag x) E H):=aR rfl
theorem EM {G:ab} {off:Nat} {x:X} {d:Option Nat} {g:Nat}:cq cb H G ⟨d,.fld off x,none⟩ E g=cf (aw (.fld off x) E H):=aR rfl
theorem AT {G:ab} {off:Nat} {sz:Nat} {ag:Bool} {x:X} {d:Option Nat} {g:Nat}:cq cb H G ⟨d,.part off sz ag x,none⟩ E g=cf (aw (.part off sz ag x) E H):=aR rfl
theorem Eo {G:ab} {sz:Nat} {x:X} {i:X} {d:Option Nat} {g:Nat}:cq cb H G ⟨d,.ixa sz x i,none⟩ E g=cf (aw (.ixa sz x i) E H):=aR rfl
theorem wK {G:ab} {n0:Nat} {sz:Nat} {x:X} {i:X} {d:Option Nat} {g:Nat}:cq cb H G ⟨d,.bk n0 sz x i,none⟩ E g=cf (aw (.bk n0 sz x i) E H):=aR rfl
theorem FB {G:ab} {n0:Nat} {sz:Nat} {ag:Bool} {x:X} {i:X} {d:Option Nat} {g:Nat}:cq cb H G ⟨d,.ixv n0 sz ag x i,none⟩ E g=cf (aw (.ixv n0 sz ag x i) E H):=aR rfl
theorem Gs {G:ab} {x:X} {i:X} {d:Option Nat} {g:Nat}:cq cb H G ⟨d,.ixs x i,none⟩ E g=cf (aw (.ixs x i) E H):=aR rfl
theorem Hg {G:ab} {op:BinOp} {ek:EqK} {x:X} {y:X} {d:Option Nat} {g:Nat}:cq cb H G ⟨d,.bin op ek x y,none⟩ E g=cf (aw (.bin op ek x y) E H):=aR rfl
theorem Lt {G:ab} {uop:UnOp} {x:X} {d:Option Nat} {g:Nat}:cq cb H G ⟨d,.un uop x,none⟩ E g=cf (aw (.un uop x) E H):=aR rfl
theorem Aj {G:ab} {cv:CvK} {x:X} {d:Option Nat} {g:Nat}:cq cb H G ⟨d,.conv cv x,none⟩ E g=cf (aw (.conv cv x) E H):=aR rfl
theorem AK {G:ab} {ty:TypeId} {x:X} {d:Option Nat} {g:Nat}:cq cb H G ⟨d,.mX ty x,none⟩ E g=cf (aw (.mX ty x) E H):=aR rfl
theorem Ac {G:ab} {f:FuncId} {xs:List X} {d:Option Nat} {g:Nat}:cq cb H G ⟨d,.gn f xs,none⟩ E g=cf (aw (.gn f xs) E H):=aR rfl
theorem sV {G:ab} {kk:Nat} {zero:AV} {j:Nat} {i:X} {ok:Bool} {d:Option Nat} {g:Nat}:cq cb H G ⟨d,.lookup kk zero (.t j) i ok,none⟩ E g=DI (aw (.lookup kk zero (.t j) i ok) E H) (aw (.lookup kk zero (.t j) i ok) E G):=by
 simp only[cq,db,if_true]
 cases aw (.lookup kk zero (.t j) i ok) E H with
 |some v=>rfl
 |none=>cases aw (.lookup kk zero (.t j) i ok) E G<;>rfl
theorem rG {G:ab} {ty:TypeId} {zero:AV} {x:X} {ok:Bool} {d:Option Nat} {g:Nat}:cq cb H G ⟨d,.eV ty zero x ok,none⟩ E g=cf (aw (.eV ty zero x ok) E H):=aR rfl
theorem Ez {G:ab} {x:X} {j:Nat} {d:Option Nat} {g:Nat}:cq cb H G ⟨d,.ext x j,none⟩ E g=cf (aw (.ext x j) E H):=aR rfl
theorem xN {G:ab} {sz:Nat} {x:X} {lo:Option X} {hi:Option X} {d:Option Nat} {g:Nat}:cq cb H G ⟨d,.slice sz x lo hi,none⟩ E g=cf (aw (.slice sz x lo hi) E H):=aR rfl
theorem BO {G:ab} {sz:Nat} {x:X} {lo:Option X} {hi:Option X} {mx:Option X} {d:Option Nat} {g:Nat}:cq cb H G ⟨d,.oQ sz x lo hi mx,none⟩ E g=cf (aw (.oQ sz x lo hi mx) E H):=aR rfl
theorem xR {G:ab} {x:X} {lo:Option X} {hi:Option X} {d:Option Nat} {g:Nat}:cq cb H G ⟨d,.fD x lo hi,none⟩ E g=cf (aw (.fD x lo hi) E H):=aR rfl
theorem Fp {G:ab} {k:Nat} {x:X} {d:Option Nat} {g:Nat}:cq cb H G ⟨d,.len k x,none⟩ E g=cf (aw (.len k x) E H):=aR rfl
theorem vY {G:ab} {x:X} {d:Option Nat} {g:Nat}:cq cb H G ⟨d,.bh x,none⟩ E g=cf (aw (.bh x) E H):=aR rfl
theorem rf {G:ab} {sz:Nat} {bytes:Nat} {zs:List AV} {x:X} {y:X} {d:Option Nat} {g:Nat}:cq cb H G ⟨d,.fR sz bytes zs x y,none⟩ E g=cf (aw (.fR sz bytes zs x y) E H):=aR rfl
theorem Ak {G:ab} {sz bytes:Nat} {x y:X} {d:Option Nat} {g:Nat}:cq cb H G ⟨d,.wR sz bytes x y,none⟩ E g=cf (aw (.wR sz bytes x y) E H):=aR rfl
theorem AJ {G:ab} {x:X} {d:Option Nat} {g:Nat}:cq cb H G ⟨d,.pK x,none⟩ E g=cf (aw (.pK x) E H):=aR rfl
theorem xO {G:ab} {f:FuncId} {xs:List X} {d:Option Nat} {g:Nat}:cq cb H G ⟨d,.jn f xs,none⟩ E g=cf (aw (.jn f xs) E H):=aR rfl
theorem wE {G:ab} {n0 sz:Nat} {x:X} {lo hi:Option X} {d:Option Nat} {g:Nat}:cq cb H G ⟨d,.kE n0 sz x lo hi,none⟩ E g=cf (aw (.kE n0 sz x lo hi) E H):=aR rfl
theorem x7 {G:ab} {n0:Nat} {x:X} {d:Option Nat} {g:Nat}:cq cb H G ⟨d,.mO n0 x,none⟩ E g=cf (aw (.mO n0 x) E H):=aR rfl
theorem BC {G:ab} {x y:X} {d:Option Nat} {g:Nat}:cq cb H G ⟨d,.vo x y,none⟩ E g=cf (aw (.vo x y) E H):=aR rfl
theorem Bu {G:ab} {x y:X} {d:Option Nat} {g:Nat}:cq cb H G ⟨d,.rX x y,none⟩ E g=cf (aw (.rX x y) E H):=aR rfl
def prV (cb:CB) (H:ab) (o:Option (FuncId×List AV)) (g:Nat):Option (AV×Option aj):=
 match o with
 |some (f,as)=>prP (pcx cb f as H) g
 |none=>none
theorem yC {f:FuncId} {as:List AV} {g:Nat}:prV cb H (some (f,as)) g=prP (pcx cb f as H) g:=(rfl)
theorem sJ {f:FuncId} {caps as:List AV}:ig (.fn f caps) as=some (f,as++caps):=(rfl)
theorem lq {f:FuncId} {fs as:List AV}:ig (.bnd f fs) as=some (f,fs++as):=(rfl)
theorem yp {G:ab} {zs:List AV} {d:Option Nat} {g:Nat}:cq cb H G ⟨d,.alloc zs,none⟩ E g=some (.ptr g 0,some (.cells zs)):=by
 simp only[cq,db,if_true,aw]
theorem pE {G:ab} {d:Option Nat} {x:X} {args:List X} {g:Nat}:cq cb H G ⟨d,.ct x args,none⟩ E g=prV cb H (ig (x.evE E) (args.map (·.evE E))) g:=by
 simp only[cq,db,if_true,aw]
 cases hc:ig (x.evE E) (args.map (·.evE E))with
 |none=>rfl
 | some q=>
   obtain⟨f,as⟩:=q;simp only[prV]
   cases hv:pcx cb f as H with
   |none=>rfl
   |some q=>cases q<;>rfl
theorem tB {G:ab} {d:Option Nat} {f:FuncId} {args:List X} {g:Nat}:cq cb H G ⟨d,.bM f args,none⟩ E g=prP (pcx cb f (args.map (·.evE E)) H) g:=by
 simp only[cq,db,if_true,aw]
 cases hv:pcx cb f (args.map (·.evE E)) H with
 |none=>rfl
 |some q=>cases q<;>rfl
def GP (v:AV) (b:Bool) (o:Option (AV×Option aj)):Option (AV×Option aj):=
 match v with
 | .bool b'=>if b'=b then o else some (.tup [],none)
 |_=>some (.tup [],none)
theorem Lk {o:Option (AV×Option aj)}:GP (.bool true) true o=o:=(rfl)
theorem Ll {o:Option (AV×Option aj)}:GP (.bool false) false o=o:=(rfl)
theorem La {o:Option (AV×Option aj)}:GP (.bool true) false o=some (.tup [],none):=(rfl)
theorem Lr {o:Option (AV×Option aj)}:GP (.bool false) true o=some (.tup [],none):=(rfl)
theorem Hx {p:Prop} [Decidable p] {o:Option (AV×Option aj)} (h:p):GP (.bool (decide p)) true o=o:=by rw[decide_eq_true h];rfl
theorem F1 {p:Prop} [Decidable p] {o:Option (AV×Option aj)} (h:¬p):GP (.bool (decide p)) false o=o:=by rw[decide_eq_false h];rfl
theorem HJ {p:Prop} [Decidable p] {o:Option (AV×Option aj)} (h:p):GP (.bool (decide p)) false o=some (.tup [],none):=by rw[decide_eq_true h];rfl
theorem Gk {p:Prop} [Decidable p] {o:Option (AV×Option aj)} (h:¬p):GP (.bool (decide p)) true o=some (.tup [],none):=by rw[decide_eq_false h];rfl
theorem Oo {v:AV} {b:Bool} {o:Option (AV×Option aj)}:(if(match v with| .bool b'=>b'==b|_=>false)=true then o else some (.tup [],none))=GP v b o:=by
 cases v with
 | bool b'=>
   by_cases hb:b'=b
   . subst hb;simp[GP]
   . simp[GP,hb]
 |_=>rfl
theorem qI {G:ab} {d:Option Nat} {op:AOp} {t:Nat} {b:Bool} {g:Nat}:cq cb H G ⟨d,op,some (t,b)⟩ E g=GP (E t) b (cq cb H G ⟨d,op,none⟩ E g):=by
 rw[<-Oo];rfl
def prO (o:Option PR) (H:ab):Option (Out×ab):=
 match o with
 |some (.plain v)=>some (.ret v,H)
 |some (.fresh sz n cs)=>some (.ret (.sl sz n cs (.own H.length)),H++[.tok sz])
 |some (.iJ es)=>some (.ret (.mp H.length),H++[.map es])
 |some (.pan c)=>some (.pan c,H)
 |some (.rq _)=>none
 |none=>none
theorem wQ {es:List (AV×AV)}:prO (some (.iJ es)) H=some (.ret (.mp H.length),H++[.map es]):=(rfl)
theorem sj {v:AV}:prO (some (.plain v)) H=some (.ret v,H):=(rfl)
theorem sB {sz n:Nat} {cs:List AV}:prO (some (.fresh sz n cs)) H=some (.ret (.sl sz n cs (.own H.length)),H++[.tok sz]):=(rfl)
theorem Aw {c:List (AV×Bool)}:prO (some (.pan c)) H=some (.pan c,H):=(rfl)
theorem yU {f:FuncId} {args:List AV} (hl:cb.cj f=false):pcx cb f args H=cb.pc f args:=by rw[pcx,if_neg (by simp[hl])]
end rules
theorem aU {cb:CB} {H:ab} {f:FuncId} {args:List AV} {p:PR} (hl:cb.cj f=false) (h:cb.pc f args=some p):pcx cb f args H=some p:=by rw[yU hl];exact h
theorem aY {cb:CB} {H:ab} {f:FuncId} {args:List AV} (hl:cb.cj f=false) (h:cb.pc f args=none):pcx cb f args H=none:=by rw[yU hl];exact h
def mq (E:Env) (H:ab):List mY->Option (List AV)
 |[]=>some []
 | .tmp t::r=>(mq E H r).map (E t:: ·)
 | .cell t sz ag::r=>
   match E t with
   | .ptr id off=>
     match H[id]? with
     | some (.cells cs)=>
       match dZ cs off sz ag,mq E H r with
       |some v,some vs=>some (v::vs)
       |_,_=>none
     |_=>none
   |_=>none
theorem zq (tm:List AV) (H:ab):∀rs,lD tm H rs=mq (EV tm) H rs
 |[]=>rfl
 | .tmp t::r=>by simp only[lD,mq,EV,zq tm H r]
 | .cell t sz ag::r=>by simp only[lD,mq,EV,zq tm H r]<;>rfl
def qW:Ex->Option Mode
 | .normal=>some .returning
 | .ret=>some .returning
 | .panic c=>some (.panicking c)
 |_=>none
def Ends (tab:FuncId->Option av) (res:List mY) (P:Out->ab->Prop):KP:=fun e E df H=>
 match qW e with
 | some u=>
   match b6 tab (cbL tab) df u H with
   | some (.returning,H2)=>
     match mq E H2 res with
     |some vs=>P (.ret (ae vs)) H2
     |none=>False
   |some (.panicking c,H2)=>P (.pan c) H2
   |none=>False
 |none=>False
theorem xl {tab:FuncId->Option av} {res:List mY} {P:Out->ab->Prop} {E:Env} {H:ab}:Ends tab res P .ret E [] H=match mq E H res with
   |some vs=>P (.ret (ae vs)) H
   |none=>False:=rfl
theorem oj {tab:FuncId->Option av} {res:List mY} {P:Out->ab->Prop} {E:Env} {H:ab}:Ends tab res P .normal E [] H=match mq E H res with
   |some vs=>P (.ret (ae vs)) H
   |none=>False:=rfl
theorem rT {tab:FuncId->Option av} {res:List mY} {P:Out->ab->Prop} {E:Env} {H H2:ab} {df:List ADf} (h:b6 tab (cbL tab) df .returning H=some (.returning,H2)):Ends tab res P .ret E df H=Ends tab res P .ret E [] H2:=by
 simp only[Ends,qW,h,b6]
theorem eL {tab:FuncId->Option av} {res:List mY} {P:Out->ab->Prop} {E:Env} {H:ab} {k:Nat} (h:H[k]? =some .cO):Ends tab res P .ret E [.mark k] H=Ends tab res P .ret E [] (H.set k .dead):=by
 simp only[Ends,qW,b6,h]
theorem od {tab:FuncId->Option av} {res:List mY} {P:Out->ab->Prop} {E:Env} {H:ab} {k:Nat} (h:H[k]? =some .cO):Ends tab res P .normal E [.mark k] H=Ends tab res P .normal E [] (H.set k .dead):=by
 simp only[Ends,qW,b6,h]
theorem pJ {tab:FuncId->Option av} {res:List mY} {P:Out->ab->Prop} {E:Env} {H:ab} {c:List (AV×Bool)}:Ends tab res P (.panic c) E [] H=P (.pan c) H:=(rfl)
theorem lU {tab:FuncId->Option av} {fi:av} {args:List AV} {H:ab} {P:Out->ab->Prop} (hl:args.length<=fi.np) (hf:fi.body.fits fi.np=true)
   (h:Ret (cbL tab) none fi.np (Ends tab fi.res P) [.code fi.body] .normal (EV (fr0 fi.np args).tm) [] H):∃o H',gj tab (cbL tab) fi args H=some (o,H')/\P o H':=by
 have hlen:(fr0 fi.np args).tm.length=fi.np:=by
   simp only[fr0,List.length_append,List.length_replicate];omega
 obtain⟨e,fr,H',h1,E',h2,h3⟩:=nW fi.body (Ret (cbL tab) none fi.np (Ends tab fi.res P) []) _ [] H _ hf (.inl rfl) ⟨hlen,rfl⟩ h;rw[gj];have h1':aN (cbL tab) none fi.body (fr0 fi.np args) H=some (e,fr,H'):=h1;rw[h1'];have h3:Ends tab fi.res P e E' fr.df H':=h3;simp only[Ends]at h3
 have fin:∀u,qW e=some u->∃o H'',(match b6 tab (cbL tab) fr.df u H' with
     |some (.returning,H2)=>(lD fr.tm H2 fi.res).map fun vs=>(.ret (ae vs),H2)
     |some (.panicking c,H2)=>some (.pan c,H2)
     |none=>none)=some (o,H'')/\P o H'':=by
   intro u hu;rw[hu]at h3;simp only at h3;split at h3
   . rename_i H2 hl2
     (try rw[hl2])
     (try simp only)
     split at h3
     . rename_i vs hvs;rw[zq,h2.2,hvs];exact⟨_,_,rfl,h3⟩
     . exact h3.elim
   . rename_i c H2 hl2
     (try rw[hl2])
     exact⟨_,_,rfl,h3⟩
   . exact h3.elim
 cases e with
 |normal=>exact fin _ rfl
 |ret=>exact fin _ rfl
 |panic c=>exact fin _ rfl
 |exit j=>exact h3.elim
 |goto j=>exact h3.elim
def oM (args:List AV):Env:=fun i=>args.getD i (.tup [])
theorem jZ (a:AV) (r:List AV):oM (a::r) 0=a:=(rfl)
theorem j7 (a:AV) (r:List AV) (i:Nat):oM (a::r) (i+1)=oM r i:=(rfl)
theorem yE (i:Nat):oM [] i= .tup []:=(rfl)
theorem nQ (n:Nat) (args:List AV):EV (fr0 n args).tm=oM args:=by
 funext i
 simp only[EV,fr0,oM,List.getD];by_cases h:i<args.length
 . rw[List.getElem?_append_left h]
 . rw[List.getElem?_append_right (by omega),List.getElem?_eq_none (l:=args) (by omega),List.getElem?_replicate]
   split<;>rfl
theorem EK {m:Nat} {r:Option (Out×ab)} (h:m≠5/\m≠6):rZ m r=aJ r:=by simp[rZ,h.1,h.2]
theorem GJ {m:Nat} {r:Option (Out×ab)} (h:m=6):rZ m r=dx r:=by simp[rZ,h]
theorem bu {tab:FuncId->Option av} {f:FuncId} {fi:av} {args:List AV} {r:PR} (ht:tab f=some fi) (hon:bV fi args=true) (hl:args.length<=fi.np) (hf:fi.body.fits fi.np=true)
   (h:Ret (cbL tab) none fi.np (Ends tab fi.res fun o H=>aJ (some (o,H))=some r) [.code fi.body] .normal (oM (args.map aE)) [] []) (hcon:fi.con=none:=by rfl) (hm:fi.mode≠5/\fi.mode≠6:=by decide):(cbL tab).pc f args=some r:=by
 rw[<-nQ fi.np]at h;apply sc;rw[pcA,ht];simp only[hcon,hon,if_true];obtain⟨o,H',h1,h2⟩:=lU (by rw[List.length_map];exact hl) hf h;rw[h1,EK hm,h2]
theorem cW {tab:FuncId->Option av} {f:FuncId} {fi:av} {args:List AV} {r:PR} (ht:tab f=some fi) (hon:bV fi args=true) (hl:args.length<=fi.np) (hf:fi.body.fits fi.np=true)
   (h:Ret (cbL tab) none fi.np (Ends tab fi.res fun o H=>dx (some (o,H))=some r) [.code fi.body] .normal (oM (args.map aE)) [] []) (hcon:fi.con=none:=by rfl) (hm:fi.mode=6:=by rfl):(cbL tab).pc f args=some r:=by
 rw[<-nQ fi.np]at h;apply sc;rw[pcA,ht];simp only[hcon,hon,if_true];obtain⟨o,H',h1,h2⟩:=lU (by rw[List.length_map];exact hl) hf h;rw[h1,GJ hm,h2]
theorem cA {tab:FuncId->Option av} {f:FuncId} {fi:av} {args:List AV} {H:ab} {P:Out->ab->Prop} (ht:tab f=some fi) (hon:bV fi args=false) (hl:args.length<=fi.np) (hf:fi.body.fits fi.np=true)
   (h:Ret (cbL tab) none fi.np (Ends tab fi.res P) [.code fi.body] .normal (oM args) [] H) (hcon:fi.con=none:=by rfl) (hicon:fi.nO=none:=by rfl):∃o H',(cbL tab).ic f args H=some (o,H')/\P o H':=by
 rw[<-nQ fi.np]at h;obtain⟨o,H',h1,h2⟩:=lU hl hf h;refine⟨o,H',GB ?_,h2⟩;rw[icA,ht];simp only[hcon,hicon,hon,Option.isSome_none,Bool.or_self,Bool.false_eq_true,if_false];exact h1
theorem bq {tab:FuncId->Option av} {f:FuncId} {fi:av} {args:List AV} (ht:tab f=some fi) (hon:bV fi args=false) (hcon:fi.con=none:=by rfl):(cbL tab).pc f args=none:=by
 cases hp:(cbL tab).pc f args with
 |none=>rfl
 | some r=>
   obtain⟨k,hk⟩:=dM.1 hp
   cases k with
   |zero=>cases hk
   | succ k=>
     have hk:pcA tab (cbs tab k) f args=some r:=hk;rw[pcA,ht]at hk;simp only[hcon,hon,Bool.false_eq_true,if_false]at hk;cases hk
theorem Ma {tab:FuncId->Option av} {f:FuncId} {fi:av} {g:List AV->Option PR} {args:List AV} {r:PR} (ht:tab f=some fi) (hg:fi.con=some g) (h:g args=some r):(cbL tab).pc f args=some r:=by
 apply sc;rw[pcA,ht];simp only[hg];exact h
end Go.Am
