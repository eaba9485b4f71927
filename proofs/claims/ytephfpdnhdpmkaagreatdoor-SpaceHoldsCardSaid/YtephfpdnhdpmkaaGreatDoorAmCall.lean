/- FUNCTIONS: how one is entered, how it leaves, what it hands back. No condition. -/
import Derived.Test.YtephfpdnhdpmkaaGreatDoorAmWalk
set_option linter.all false
namespace Go.Am
open Go Go.RowKit
set_option linter.unusedSectionVars false
variable [dI]
variable {P:Program} {w0:World} {V:View} {H:ab} {W:World} {tm:List AV} {a:Act}
def qH (tmps:Array Value):ResultVar->Sem Value
 | .tmp t=>pure (tmps.getD t undef)
 | .cell a t=>do loadVar t (<-asAddr (tmps.getD a undef))
theorem zw (fn:Func) (tmps:Array Value):results fn tmps=(do let vs<-fn.results.mapM (qH tmps);pure (if h:vs.size=1 then vs[0] else .tuple vs)):=by
 unfold results;congr 2
theorem yJ {tmps:Array Value} (hT:al V tm tmps.toList) (t:Nat):Rep V (tm.getD t (.tup [])) (tmps.getD t undef):=by
 rw[List.getD_eq_getElem?_getD]
 cases hx:tm[t]? with
 | none=>
   have h1:tm.length<=t:=List.getElem?_eq_none_iff.1 hx
   have h2:tmps.size<=t:=by have:=hT.1;simp at this;omega
   have:tmps.getD t undef=undef:=by simp[Array.getElem?_eq_none h2]
   rw[this];exact Rep.undef V
 | some x=>
   obtain⟨v,hv,hr⟩:=hT.get hx
   have:tmps.getD t undef=v:=by
     rw[Array.getElem?_toList]at hv;simp[Array.getElem?_eq_some_iff]at hv;obtain⟨h1,h2⟩:=hv;simp[h1,h2]
   rw[this];exact hr
theorem kW (hW:WR P w0 V H W) {tmps:Array Value} (hT:al V tm tmps.toList):∀(rs:List ResultVar) (ars:List mY) (vs:List AV),cP (Gq P) rs=some ars->lD tm H ars=some vs→
   ∃us:List Value,(rs.mapM (qH tmps)).run P W= .ok us W/\al V vs us
 | [],ars,vs,h1,h2=>by
   cases h1;cases h2;exact⟨[],rfl,al.nil V⟩
 | r::rs,ars,vs,h1,h2=>by
   simp only[cP]at h1;split at h1
   . rename_i ar ars' hr hrs;cases h1
     cases r with
     | tmp t=>
       cases hr;simp only[lD]at h2;obtain⟨vs',hvs,rfl⟩:=Option.map_eq_some_iff.1 h2;obtain⟨us,k1,k2⟩:=kW hW hT rs ars' vs' hrs hvs;refine⟨tmps.getD t undef::us, ?_,al.cons (yJ hT t) k2⟩;rw[List.mapM_cons];simp only[Sem.run_bind,qH,Sem.run_pure,Result.andThen_ok,k1]
     | cell t ty=>
       simp only[Gq]at hr;split at hr
       . rename_i s ag hs hg;split at hr
         . cases hr;simp only[lD]at h2;have hrp:=yJ hT t;split at h2
           . rename_i id off he;rw[he]at hrp;obtain⟨b,hb,hl⟩:=ib hrp;split at h2
             . rename_i cs hcs;split at h2
               . rename_i v vs' hv hvs;cases h2;obtain⟨b',vs0,ty',hb',_,hh,hrl,_⟩:=hW.obj id _ hcs;rw[hl]at hb';cases hb';have hc:=((jz hh).take cs.length).drop off;rw[Nat.zero_add]at hc;obtain⟨u,hrun,hru⟩:=lh hs hg (hrl.drop off) hc (rH hv);obtain⟨us,k1,k2⟩:=kW hW hT rs ars' vs' hrs hvs;refine⟨u::us, ?_,al.cons hru k2⟩;rw[List.mapM_cons]
                 have ea:(asAddr (tmps.getD t undef)).run P W= .ok ⟨b,off,none⟩ W:=by rw[hb];rfl
                 simp only[Sem.run_bind,qH,ea,Result.andThen_ok,hrun,k1,Sem.run_pure]
               . cases h2
             . cases h2
           . cases h2
         . cases hr
       . cases hr
   . cases h1
theorem kS (hW:WR P w0 V H W) {tmps:Array Value} (hT:al V tm tmps.toList) {fn:Func} {ars:List mY} {vs:List AV} (h1:cP (Gq P) fn.results.toList=some ars) (h2:lD tm H ars=some vs):
   ∃u,(results fn tmps).run P W= .ok u W/\Rep V (ae vs) u:=by
 obtain⟨us,k1,k2⟩:=kW hW hT _ _ _ h1 h2;rw[zw,Array.mapM_eq_mapM_toList]
 have e:((List.toArray<$>fn.results.toList.mapM (qH tmps)):Sem (Array Value)).run P W= .ok us.toArray W:=by
   rw[<-bind_pure_comp,Sem.run_bind,k1];rfl
 refine⟨if h:us.toArray.size=1 then us.toArray[0] else .tuple us.toArray,by rw[Sem.run_bind,e];rfl, ?_⟩;have hl:=k2.1
 match vs,us,k2,hl with
 |[],[],_,_=>exact Rep.undef V
 |[x],[u],k2,_=>exact k2.head
 | x::y::r,u::w::us,k2,_=>
   simp only[ae];rw[dif_neg (by simp)];exact Rep.oK k2
def yj (P:Program) (f:FuncId) (g:List AV->Option PR):Prop:=∀(args:List AV) (r:PR),g args=some r->∀(V:View) (W:World) (us:Array Value),(∀p v,V.imm p=some v->W.cell? p=some v/\v.oneCell'=true)->kO W->al V args us.toList→
 (callFunc f us).run P W= .ok (.enter f us) W/\CallsIn (Fk none) 0 P f us W (fP V W r)
def zL (P:Program) (f:FuncId) (g:List AV->ab->Option (Out×ab)):Prop:=∀(args:List AV) (H:ab) (o:Out) (H':ab),g args H=some (o,H')->∀(w0:World) (V:View) (W:World) (us:Array Value),WR P w0 V H W->al V args us.toList→
 (callFunc f us).run P W= .ok (.enter f us) W/\CallsIn (Fk none) 0 P f us W (fS P w0 V H' o)
def iM (P:Program) (tab:FuncId->Option av):Prop:=∀f fi,tab f=some fi->(∃fn p,P.funcs[f]? =some fn/\rI P fn p=some {fi with con:=none,nO:=none})/\(∀g,fi.con=some g->yj P f g)/\∀g,fi.nO=some g->zL P f g
theorem tk0 {P:Program} {f:FuncId} {fi:av} {fn:Func} {p:Nat} (h:P.funcs[f]? =some fn) (hc:rI P fn p=some fi) (h1:fi.con=none:=by rfl) (h2:fi.nO=none:=by rfl):
   (∃fn p,P.funcs[f]? =some fn/\rI P fn p=some {fi with con:=none,nO:=none})/\(∀g,fi.con=some g->yj P f g)/\∀g,fi.nO=some g->zL P f g:=by
 refine⟨⟨fn,p,h, ?_⟩,(fun g hg=>by rw[h1]at hg;cases hg),(fun g hg=>by rw[h2]at hg;cases hg)⟩;rw[hc];obtain⟨_,_,_,_,_,_⟩:=fi;cases h1;cases h2;rfl
theorem lK {fn:Func} {p:Nat} {fi:av} (h:rI P fn p=some fi):∃c,fn.body=some c/\bj P c=some fi.body/\cP (Gq P) fn.results.toList=some fi.res/\fi.np=fn.ntmps/\(fn.name== "runtime.NumGoroutine")=false:=by
 unfold rI at h;split at h
 . rename_i c hb;split at h
   . rename_i c' rs h1 h2;split at h
     . cases h
     . rename_i hn;cases h;exact⟨c,hb,h1,h2,rfl,by simpa using hn⟩
   . cases h
 . cases h
theorem e9 {f:FuncId} {fn:Func} {c:Code} (hf:P.funcs[f]? =some fn) (hb:fn.body=some c) (hn:(fn.name== "runtime.NumGoroutine")=false) (us:Array Value):(callFunc f us).run P W= .ok (.enter f us) W:=by
 simp only[callFunc,Sem.run_bind];have:(program).run P W= .ok P W:=rfl;simp only[this,Result.andThen_ok,hf,hn,hb];rfl
theorem zl {args:List AV} {us:Array Value} (h:al V args us.toList) (np:Nat):FrR V (fr0 np args) {tmps:=us++Array.replicate (np-us.size) undef,defers:=[]}:=by
 refine⟨?_,trivial⟩
 have hl:args.length=us.size:=by have:=h.1;simpa using this
 have:=h.append (al.replicate V (np-args.length) (Rep.undef V));rw[hl]at this;simpa[fr0,hl] using this
def fC (V:View):Mode->FrameMode->Prop
 | .returning,.returning=>True
 | .panicking c,.panicking ch=>ChR V c ch
 |_,_=>False
theorem fC.mono {V V':View} (hV:V.Le V') {u:Mode} {m:FrameMode} (h:fC V u m):fC V' u m:=by
 cases u<;>cases m<;>first|exact h|exact ChR.mono hV h
theorem fC.ne {u:Mode} {m:FrameMode} (h:fC V u m):m≠ .run:=by rintro rfl;cases u<;>exact h.elim
theorem kF:∀{c:List (AV×Bool)} {ch:List PanicEntry},ChR V c ch->ch.dropWhile (fun x=> !x.goexit)=[]
 |[],[],_=>rfl
 | _::_,p::ps,h=>by
   rw[List.dropWhile_cons,h.2.2.1];exact kF h.2.2.2
 |[],_::_,h=>h.elim
 |_::_,[],h=>h.elim
theorem Cp {u:Mode} {m:FrameMode} (h:fC V u m):fC V (uf u) (settle m):=by
 cases u with
 |returning=>cases m<;>first|exact h.elim|trivial
 | panicking c=>
   cases m<;>try exact h.elim
   rename_i ch
   match c,ch,h with
   |[],[],_=>trivial
   | (v,true)::c',p::ps,h=>
     obtain⟨pv,pr,pg⟩:=p;obtain⟨h1,h2,h3,h4⟩:=h;simp only at h2;subst h2;have e:=kF h4;simp only[uf,settle,e];trivial
   | (v,false)::c',p::ps,h=>
     obtain⟨pv,pr,pg⟩:=p;have h2:=h.2.1;simp only at h2;subst h2;exact h
theorem pT:∀{c:List (AV×Bool)} {ch:List PanicEntry} {d:List (AV×Bool)} {dh:List PanicEntry},ChR V c ch->ChR V d dh->ChR V (c++d) (ch++dh)
 |[],[],_,_,_,h=>h
 |_::_,_::_,_,_,h,k=>⟨h.1,h.2.1,h.2.2.1,pT h.2.2.2 k⟩
 |[],_::_,_,_,h,_=>h.elim
 |_::_,[],_,_,h,_=>h.elim
theorem Cu {u:Mode} {m:FrameMode} (h:fC V u m) {c:List (AV×Bool)} {ch:List PanicEntry} (k:ChR V c ch):fC V (AX u c) (raised m ch):=by
 cases u<;>cases m<;>first|exact h.elim|exact k|exact pT k h
def s6 (P:Program) (w0:World) (V:View) (c₀:Frame) (cs:List Frame) (r:Ex×Fr×ab×Mode) (Q:Exit->Act->List Frame->World->Prop):Prop:=
 ∀V' a' W' ex m,bO w0 V V'->WR P w0 V' r.2.2.1 W'->FrR V' r.2.1 a'->ExR V' r.1 ex->fC V' r.2.2.2 m->Q ex a' ({c₀ with mode:=m}::cs) W'
theorem s6.mono {V V':View} {c₀:Frame} {cs:List Frame} {r:Ex×Fr×ab×Mode} {Q:Exit->Act->List Frame->World->Prop} (h:s6 P w0 V c₀ cs r Q) (g:bO w0 V V'):s6 P w0 V' c₀ cs r Q:=
 fun V'' a' W' ex m k1=>h V'' a' W' ex m (g.trans k1)
theorem zd {cb:CB} {ops:Array Oper} {c₀:Frame} {cs:List Frame} {Q:Exit->Act->List Frame->World->Prop} {r:Ex×Fr×ab×Mode}:∀(l:List Oper) (k:Nat) (os:List ai) (V:View) (fr:Fr) (H:ab) (a:Act) (W:World) (u:Mode) (m:FrameMode),
   (∀j,l[j]? =ops[k+j]?)->cP (dO P ops) l=some os->FrR V fr a->WR P w0 V H W->fC V u m->dj cb os fr H u=some r->s6 P w0 V c₀ cs r Q→
   wpOpsSIn (Fk none) 0 P ops Q (List.range' k l.length) a ({c₀ with mode:=m}::cs) W:=by
 intro l
 induction l with
 | nil=>
   intro k os V fr H a W u m _ hm hF hW hu h hQ;cases hm;cases h;exact hQ V a W .normal m (.refl w0 V) hW hF trivial hu
 | cons o l ih=>
   intro k os V fr H a W u m hl hm hF hW hu h hQ
   have h0:ops[k]? =some o:=by simpa using(hl 0).symm
   have hl':∀j,l[j]? =ops[k+1+j]? :=fun j=>by have:=hl (j+1);simpa[Nat.add_assoc,Nat.add_comm 1 j] using this
   simp only[cP]at hm;split at hm
   . rename_i ao os' hc hos;cases hm;obtain⟨hop,hdst⟩:=gM hc;simp only[List.length_cons,List.range'_succ,wpOpsSIn,h0];refine⟨fun _ _=>trivial, ?_⟩;rw[fM hF.tm hc];simp only[dj]at h;split at h
     . rename_i hw;rw[if_pos hw];split at h
       . rename_i v hv;obtain⟨V',W',x,h1,h2,h3,h4,_⟩:=gS hW hF.tm hop hv;rw[h1];have g:=h3.grow hW.size (by simp);simp only[hdst];exact ih (k+1) os' V' _ H _ W' u m hl' hos (bK hF h3.le h2 _) h4 (hu.mono h3.le) h (hQ.mono g)
       . split at h
         . rename_i hao;obtain⟨_,hrun⟩:=cB (nx:= .fA) (H':=H) hW hF.tm hop (by rw[hao];rfl);rw[hrun];split at h
           . rename_i v older
             cases m<;>try exact hu.elim
             rename_i ch
             match ch,hu with
             | p::ps,hu=>
               obtain⟨pv,pr,pg⟩:=p;obtain⟨e1,e2,e3,e4⟩:=hu;simp only at e2 e3;subst e2 e3;simp only[recoverD,hdst];exact ih (k+1) os' V _ H _ W (.panicking ((v,true)::older)) _ hl' hos (bK hF (.refl V) e1 _) hW ⟨e1,rfl,rfl,e4⟩ h hQ
           . rename_i hno
             have hrec:recoverD ({c₀ with mode:=m}::cs)=none:=by
               simp only[recoverD];split
               . exfalso
                 cases u with
                 |returning=>exact hu.elim
                 | panicking c=>
                   match c,hu with
                   | (x,b)::c',hu=>
                     have:=hu.2.1;simp only at this;subst this;exact hno _ _ rfl
               . rfl
             simp only[hrec,hdst];exact ih (k+1) os' V _ H _ W u m hl' hos (bK hF (.refl V) .fO _) hW hu h hQ
         . cases h
     . rename_i hw;rw[if_neg hw];simp only[hdst];exact ih (k+1) os' V _ H _ W u m hl' hos (bK hF (.refl V) (Rep.undef V) _) hW hu h hQ
   . cases hm
theorem Fs {cb:CB} (hcb:fH P cb) {c₀:Frame} {cs:List Frame}:∀(c:Code) (ac:aC),bj P c=some ac->∀(V:View) (fr:Fr) (H:ab) (a:Act) (W:World) (u:Mode) (m:FrameMode) (r:Ex×Fr×ab×Mode) (Q:Exit->Act->List Frame->World->Prop),
   FrR V fr a->WR P w0 V H W->fC V u m->de cb ac fr H u=some r->s6 P w0 V c₀ cs r Q->c.wpSIn (Fk none) 0 P Q a ({c₀ with mode:=m}::cs) W:=by
 have plain:∀(c:Code) (ac:aC),bj P c=some ac->∀(V:View) (fr:Fr) (H:ab) (a:Act) (W:World) (u:Mode) (m:FrameMode) (r:Ex×Fr×ab×Mode) (Q:Exit->Act->List Frame->World->Prop),
     FrR V fr a->WR P w0 V H W->fC V u m->(match aN cb none ac fr H with
       |some (e,fr',H')=>some (e,fr',H',u)
       |none=>none)=some r->s6 P w0 V c₀ cs r Q->c.wpSIn (Fk none) 0 P Q a ({c₀ with mode:=m}::cs) W:=by
   intro c ac hc V fr H a W u m r Q hF hW hu h hQ;split at h
   . rename_i e fr' H' hr;cases h;exact wpSIn_of_wpIn rfl (ia hcb none c ac hc w0 none V fr H a W _ _ hr trivial hF hW (fun V' a' W' ex g1 g2 g3 g4=>hQ V' a' W' ex m g1 g2 g3 g4 (hu.mono g1.le)))
   . cases h
 intro c
 induction c with
 | region id ops d=>
   intro ac hc V fr H a W u m r Q hF hW hu h hQ;have hc0:=hc
   cases hcr:fT P ops d with
   | none=>
     simp only[bj,hcr,Option.getD_none,Option.some.injEq]at hc;subst hc;cases h
   |some ac'=>
   have hce:ac=ac':=by
     simp only[bj,hcr,Option.getD_some,Option.some.injEq]at hc;exact hc.symm
   subst hce;have hc:=hcr
   cases d with
   | false=>
     obtain⟨os,hos,rfl⟩:=iw P hc;simp only[de]at h;split at h
     . refine wpSIn_region ?_;rw[List.range_eq_range',<-Array.length_toList];exact zd ops.toList 0 os V fr H a W u m (fun j=>by simp) hos hF hW hu h hQ
     . exact plain _ _ hc0 V fr H a W u m r Q hF hW hu h hQ
   | true=>
     obtain⟨pre,tail,rfl⟩:=ji P hc;exact plain _ _ hc0 V fr H a W u m r Q hF hW hu h hQ
 | seq x y ihx ihy=>
   intro ac hc V fr H a W u m r Q hF hW hu h hQ;simp only[bj]at hc;split at hc
   . rename_i ax ay hx hy;cases hc;simp only[de]at h;refine wpSIn_seq ?_
     cases hr:de cb ax fr H u with
     |none=>rw[hr]at h;cases h
     | some q=>
       refine ihx ax hx V fr H a W u m q _ hF hW hu hr (fun V' a' W' ex m' g1 g2 g3 g4 g5=> ?_);rw[hr]at h;obtain⟨e,fr',H',u'⟩:=q
       cases e with
       | normal=>
         simp only at h
         cases ex<;>try exact g4.elim
         exact ihy ay hy V' fr' H' a' W' u' m' r Q g3 g2 g5 h (hQ.mono g1)
       |goto i=>cases h;cases ex<;>first|exact hQ V' a' W' _ m' g1 g2 g3 g4 g5|exact g4.elim
       |exit i=>cases h;cases ex<;>first|exact hQ V' a' W' _ m' g1 g2 g3 g4 g5|exact g4.elim
       |ret=>cases h;cases ex<;>first|exact hQ V' a' W' _ m' g1 g2 g3 g4 g5|exact g4.elim
       |panic ch=>cases h;cases ex<;>first|exact hQ V' a' W' _ m' g1 g2 g3 g4 g5|exact g4.elim
   . cases hc
 |refuse _=>intro ac hc;simp[bj]at hc
 | cond x y z=>
   intro ac hc;have hc0:=hc;simp only[bj]at hc
   split at hc<;>cases hc
   exact plain _ _ hc0
 | block id c=>
   intro ac hc;have hc0:=hc;simp only[bj]at hc;obtain⟨x,_,rfl⟩:=Option.map_eq_some_iff.1 hc;exact plain _ _ hc0
 | loop c=>
   intro ac hc;have hc0:=hc;simp only[bj]at hc;obtain⟨x,_,rfl⟩:=Option.map_eq_some_iff.1 hc;exact plain _ _ hc0
 | scope c=>
   intro ac hc;have hc0:=hc;simp only[bj]at hc;obtain⟨x,_,rfl⟩:=Option.map_eq_some_iff.1 hc;exact plain _ _ hc0
 | rangeFunc f ps x y=>
   intro ac hc;have hc0:=hc;simp only[bj]at hc
   split at hc<;>cases hc
   exact plain _ _ hc0
 | _=>
   intro ac hc;have hc0:=hc;simp only[bj,Option.some.injEq]at hc;subst hc;exact plain _ _ hc0
theorem wz {cb:CB} (hcb:fH P cb) {f:FuncId} {fn:Func} {p:Nat} {fi:av} (hf:P.funcs[f]? =some fn) (hc:rI P fn p=some {fi with con:=none,nO:=none}) {args:List AV} {us:Array Value} {u u':Mode} {m:FrameMode} {o:Out} {H':ab} {R:Ending->FrameMode->World->Prop}
   (hr:al V args us.toList) (hW:WR P w0 V H W) (hu:fC V u m) (h:lQ cb fi args H u=some (o,H',u'))
   (hR:∀V' W' e m',bO w0 V V'->WR P w0 V' H' W'->y6 V' o e->fC V' u' m'->R e m' W'):CallsDIn (Fk none) 0 P f us m W R:=by
 obtain⟨c,hb,hcc,hres,hnp,_⟩:=lK hc;refine callsDIn_of_wpSIn hf hb trivial (fun c₀ cs hm=> ?_);unfold lQ at h;split at h
 . rename_i e fr' H1 u1 hrun;rw[hnp]at hrun
   have hc0:(c₀::cs)=({c₀ with mode:=m}::cs):=by rw[<-hm]
   rw[hc0];refine Fs hcb c fi.body hcc V _ H _ W u m _ _ (zl hr fn.ntmps) hW hu hrun (fun V' a' W' ex m' g1 g2 g3 g4 g5=> ?_)
   have nod:∀(hd:fr'.df=[]),a'.defers=[]:=by
     intro hd;have:=g3.df;rw[hd]at this
     cases hx:a'.defers with
     |nil=>rfl
     |cons d ds=>rw[hx]at this;exact this.elim
   have fin:∀(vs:List AV),fr'.df=[]->lD fr'.tm H1 fi.res=some vs->(Out.ret (ae vs),H1,u1)=(o,H',u')→
       a'.defers=[]/\∃m'',({c₀ with mode:=m'}::cs:List Frame)={c₀ with mode:=m''}::cs/\∃v,(results fn a'.tmps).run P W'= .ok v W'/\R (.returned v) m'' W':=by
     intro vs hd hvs heq;cases heq;obtain⟨v,k1,k2⟩:=kS g2 g3.tm hres hvs;exact⟨nod hd,m',rfl,v,k1,hR V' W' _ m' g1 g2 k2 g5⟩
   split at h
   . rename_i hd
     cases ex<;>try exact g4.elim
     obtain⟨vs,hvs,heq⟩:=Option.map_eq_some_iff.1 h;exact fin vs hd hvs heq
   . rename_i hd
     cases ex<;>try exact g4.elim
     obtain⟨vs,hvs,heq⟩:=Option.map_eq_some_iff.1 h;exact fin vs hd hvs heq
   . rename_i ch hd
     cases ex<;>try exact g4.elim
     cases h;exact⟨nod hd,m',rfl,hR V' W' _ m' g1 g2 g4 g5⟩
   . cases h
 . cases h
theorem jC {cb:CB} (hcb:fH P cb) {tab:FuncId->Option av} (htab:iM P tab) {fn:Func} {tmps:Array Value} {R:Ending->World->Prop} {u':Mode} {H':ab}:∀(ds:List ADf) (es:List Deferred) (V:View) (H:ab) (W:World) (u:Mode) (m:FrameMode),
   DfL V ds es->WR P w0 V H W->fC V u m->b6 tab cb ds u H=some (u',H')→
   (∀V' W' m',bO w0 V V'->WR P w0 V' H' W'->fC V' u' m'->LeavesInM (Fk none) 0 P fn tmps R [] m' W')->LeavesInM (Fk none) 0 P fn tmps R es m W
 | [],[],V,H,W,u,m,_,hW,hu,h,hR=>by
   cases h;exact hR V W m (.refl w0 V) hW hu
 | .mark id::ds,e::es,V,H,W,u,m,hd,hW,hu,h,hR=>by
   obtain⟨⟨b,ht,hl⟩,hds⟩:=hd;simp only[b6]at h;split at h
   . rename_i hobj;obtain⟨b',hb',hge,hh⟩:=hW.obj id _ hobj;rw[hl]at hb';cases hb'
     have hrun:(Instr.takeDeferred b).run P W= .ok [] {W with heap:=W.heap.setIfInBounds b (.deferred none)}:=by
       have hg:(getObj b).run P W= .ok (.deferred (some [])) W:=by simp[getObj,Sem.run,hh]
       simp only[Instr.takeDeferred,Sem.run_bind,hg,Result.andThen_ok];simp[setObj,Sem.run,hh]
     refine⟨hu.ne,.inl ⟨b,_,ht,hrun, ?_⟩⟩;have hup:=hW.upd (o':= .dead) hobj rfl (by simp[aH,hl]:aH V id=some b) (cH W b (.deferred none)) (fun p v hp=> ?_) trivial (fun _=>trivial)
     . exact jC hcb htab ds es V _ _ u m hds hup hu h hR
     . obtain⟨hc,_⟩:=hW.imm p v hp;refine(cH W b _).cell hc (fun e=> ?_);simp only[Option.some.injEq]at e;unfold World.cell? at hc;rw[e,hh]at hc;cases hc
   . cases h
 | .call f args::ds,e::es,V,H,W,u,m,hd,hW,hu,h,hR=>by
   obtain⟨⟨caps,ht,hr⟩,hds⟩:=hd;simp only[b6]at h;split at h
   . rename_i fi hfi;obtain⟨⟨fnc,p,hf,hc⟩,_⟩:=htab f fi hfi;obtain⟨c,hb,_,_,_,hn⟩:=lK hc
     have hinv:(invoke e.target e.args).run P W= .ok (.enter f (e.args++caps)) W:=by
       rw[ht];exact e9 hf hb hn _
     split at h
     . rename_i v H1 u1 hbd;refine⟨hu.ne,.inr ⟨by simp[Fk],.func f,caps,f,e.args++caps,ht,hinv,fun _ _=>trivial,wz hcb hf hc hr hW hu hbd (fun V' W' e' m' g1 g2 g3 g4=> ?_)⟩⟩
       cases e'<;>try exact g3.elim
       exact jC hcb htab ds es V' H1 W' _ _ (hds.mono g1.le) g2 (Cp g4) h (fun V'' W'' m'' k1=>hR V'' W'' m'' (g1.trans k1))
     . rename_i ch H1 u1 hbd;refine⟨hu.ne,.inr ⟨by simp[Fk],.func f,caps,f,e.args++caps,ht,hinv,fun _ _=>trivial,wz hcb hf hc hr hW hu hbd (fun V' W' e' m' g1 g2 g3 g4=> ?_)⟩⟩
       cases e'<;>try exact g3.elim
       exact jC hcb htab ds es V' H1 W' _ _ (hds.mono g1.le) g2 (Cu g4 g3) h (fun V'' W'' m'' k1=>hR V'' W'' m'' (g1.trans k1))
     . cases h
   . cases h
 |[],_::_,_,_,_,_,_,hd,_,_,_,_=>hd.elim
 | .mark _::_,[],_,_,_,_,_,hd,_,_,_,_=>hd.elim
 | .call _ _::_,[],_,_,_,_,_,hd,_,_,_,_=>hd.elim
theorem Ah {cb:CB} (hcb:fH P cb) {tab:FuncId->Option av} (htab:iM P tab) {f:FuncId} {fn:Func} {p:Nat} {fi:av} (hf:P.funcs[f]? =some fn) (hc:rI P fn p=some {fi with con:=none,nO:=none}) {args:List AV} {us:Array Value} {o:Out} {H':ab}
   (hr:al V args us.toList) (hW:WR P w0 V H W) (h:gj tab cb fi args H=some (o,H')):(callFunc f us).run P W= .ok (.enter f us) W/\CallsIn (Fk none) 0 P f us W (fS P w0 V H' o):=by
 obtain⟨c,hb,hcc,hres,hnp,hn⟩:=lK hc;refine⟨e9 hf hb hn us,callsIn_of_wp_marks hf hb trivial ?_⟩;unfold gj at h;split at h
 . rename_i e fr H1 hrun;rw[hnp]at hrun;refine ia hcb none c fi.body hcc w0 none V _ H _ W _ _ hrun trivial (zl hr fn.ntmps) hW (fun V' a' W' ex g1 g2 g3 g4=> ?_)
   have fin:∀(u:Mode) (m:FrameMode),fC V' u m->(match b6 tab cb fr.df u H1 with
       |some (.returning,H2)=>(lD fr.tm H2 fi.res).map fun vs=>(Out.ret (ae vs),H2)
       |some (.panicking c,H2)=>some (.pan c,H2)
       |none=>none)=some (o,H')->LeavesInM (Fk none) 0 P fn a'.tmps (fS P w0 V H' o) a'.defers m W':=by
     intro u m hu h;split at h
     . rename_i H2 hl;obtain⟨vs,hvs,heq⟩:=Option.map_eq_some_iff.1 h;cases heq;refine jC hcb htab fr.df a'.defers V' H1 W' u m g3.df g2 hu hl (fun V'' W'' m'' k1 k2 k3=> ?_)
       cases m''<;>try exact k3.elim
       obtain⟨v,j1,j2⟩:=kS k2 (g3.tm.mono k1.le) hres hvs;exact⟨v,j1,V'',g1.trans k1,k2,j2⟩
     . rename_i c' H2 hl;cases h;refine jC hcb htab fr.df a'.defers V' H1 W' u m g3.df g2 hu hl (fun V'' W'' m'' k1 k2 k3=> ?_)
       cases m''<;>try exact k3.elim
       exact⟨V'',g1.trans k1,k2,k3⟩
     . cases h
   cases e with
   | normal => cases ex<;>try exact g4.elim
               exact fin .returning .returning trivial h
   | ret => cases ex<;>try exact g4.elim
            exact fin .returning .returning trivial h
   | panic ch => cases ex<;>try exact g4.elim
                 exact fin (.panicking ch) _ g4 h
   |exit i=>cases h
   |goto i=>cases h
 . cases h
end Go.Am
