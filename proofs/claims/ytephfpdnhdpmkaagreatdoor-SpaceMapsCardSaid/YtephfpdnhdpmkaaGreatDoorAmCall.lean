/- FUNCTIONS: how one is entered, how it leaves, what it hands back. No condition. -/
import Derived.Test.YtephfpdnhdpmkaaGreatDoorAmWalk
set_option linter.all false
namespace Go.Am
open Go Go.RowKit
set_option linter.unusedSectionVars false
variable [dy]
variable {P:Program} {w0:World} {V:View} {H:ab} {W:World} {tm:List AV} {a:Act}
def oK (tmps:Array Value):ResultVar->Sem Value
 | .tmp t=>pure (tmps.getD t undef)
 | .cell a t=>do loadVar t (<-asAddr (tmps.getD a undef))
theorem yu (fn:Func) (tmps:Array Value):results fn tmps=(do let vs<-fn.results.mapM (oK tmps);pure (if h:vs.size=1 then vs[0] else .tuple vs)):=by
 unfold results;congr 2
theorem wz {tmps:Array Value} (hT:aj V tm tmps.toList) (t:Nat):Rep V (tm.getD t (.tup [])) (tmps.getD t undef):=by
 rw[List.getD_eq_getElem?_getD]
 cases hx:tm[t]? with
 | none=>
   have h1:tm.length<=t:=List.getElem?_eq_none_iff.1 hx
   have h2:tmps.size<=t:=by have:=hT.1;simp at this;omega
   have:tmps.getD t undef=undef:=by simp[Array.getElem?_eq_none h2]
   rw[this];exact Rep.undef V
 | some x=>
   obtain⟨v,hv,hr⟩:=hT.get hx
   have:tmps.getD t undef=v:=by
     rw[Array.getElem?_toList]at hv;simp[Array.getElem?_eq_some_iff]at hv;obtain⟨h1,h2⟩:=hv;simp[h1,h2]
   rw[this];exact hr
theorem kP (hW:WR P w0 V H W) {tmps:Array Value} (hT:aj V tm tmps.toList):∀(rs:List ResultVar) (ars:List ov) (vs:List AV),cK (DC P) rs=some ars->kT tm H ars=some vs→
   ∃us:List Value,(rs.mapM (oK tmps)).run P W= .ok us W/\aj V vs us
 | [],ars,vs,h1,h2=>by
   cases h1;cases h2;exact⟨[],rfl,aj.nil V⟩
 | r::rs,ars,vs,h1,h2=>by
   simp only[cK]at h1;split at h1
   . rename_i ar ars' hr hrs;cases h1
     cases r with
     | tmp t=>
       cases hr;simp only[kT]at h2;obtain⟨vs',hvs,rfl⟩:=Option.map_eq_some_iff.1 h2;obtain⟨us,k1,k2⟩:=kP hW hT rs ars' vs' hrs hvs;refine⟨tmps.getD t undef::us, ?_,aj.cons (wz hT t) k2⟩;rw[List.mapM_cons];simp only[Sem.run_bind,oK,Sem.run_pure,Result.andThen_ok,k1]
     | cell t ty=>
       simp only[DC]at hr;split at hr
       . rename_i s ag hs hg;split at hr
         . cases hr;simp only[kT]at h2;have hrp:=wz hT t;split at h2
           . rename_i id off he;rw[he]at hrp;obtain⟨b,hb,hl⟩:=gT hrp;split at h2
             . rename_i cs hcs;split at h2
               . rename_i v vs' hv hvs;cases h2;obtain⟨b',vs0,ty',hb',_,hh,hrl,_⟩:=hW.obj id _ hcs;rw[hl]at hb';cases hb';have hc:=((jb hh).take cs.length).drop off;rw[Nat.zero_add]at hc;obtain⟨u,hrun,hru⟩:=kY hs hg (hrl.drop off) hc (pU hv);obtain⟨us,k1,k2⟩:=kP hW hT rs ars' vs' hrs hvs;refine⟨u::us, ?_,aj.cons hru k2⟩;rw[List.mapM_cons]
                 have ea:(asAddr (tmps.getD t undef)).run P W= .ok ⟨b,off,none⟩ W:=by rw[hb];rfl
                 simp only[Sem.run_bind,oK,ea,Result.andThen_ok,hrun,k1,Sem.run_pure]
               . cases h2
             . cases h2
           . cases h2
         . cases hr
       . cases hr
   . cases h1
theorem kQ (hW:WR P w0 V H W) {tmps:Array Value} (hT:aj V tm tmps.toList) {fn:Func} {ars:List ov} {vs:List AV} (h1:cK (DC P) fn.results.toList=some ars) (h2:kT tm H ars=some vs):
   ∃u,(results fn tmps).run P W= .ok u W/\Rep V (ae vs) u:=by
 obtain⟨us,k1,k2⟩:=kP hW hT _ _ _ h1 h2;rw[yu,Array.mapM_eq_mapM_toList]
 have e:((List.toArray<$>fn.results.toList.mapM (oK tmps)):Sem (Array Value)).run P W= .ok us.toArray W:=by
   rw[<-bind_pure_comp,Sem.run_bind,k1];rfl
 refine⟨if h:us.toArray.size=1 then us.toArray[0] else .tuple us.toArray,by rw[Sem.run_bind,e];rfl, ?_⟩;have hl:=k2.1
 match vs,us,k2,hl with
 |[],[],_,_=>exact Rep.undef V
 |[x],[u],k2,_=>exact k2.head
 | x::y::r,u::w::us,k2,_=>
   simp only[ae];rw[dif_neg (by simp)];exact Rep.om k2
def wv (P:Program) (f:FuncId) (g:List AV->Option PR):Prop:=∀(args:List AV) (r:PR),g args=some r->∀(V:View) (W:World) (us:Array Value),(∀p v,V.imm p=some v->W.cell? p=some v/\v.oneCell'=true)->ka W->aj V args us.toList→
 (callFunc f us).run P W= .ok (.enter f us) W/\CallsIn (Fk none) 0 P f us W (fG V W r)
def yy (P:Program) (f:FuncId) (g:List AV->ab->Option (Out×ab)):Prop:=∀(args:List AV) (H:ab) (o:Out) (H':ab),g args H=some (o,H')->∀(w0:World) (V:View) (W:World) (us:Array Value),WR P w0 V H W->aj V args us.toList→
 (callFunc f us).run P W= .ok (.enter f us) W/\CallsIn (Fk none) 0 P f us W (fL P w0 V H' o)
def ia (P:Program) (tab:FuncId->Option an):Prop:=∀f fi,tab f=some fi->(∃fn p,P.funcs[f]? =some fn/\qV P fn p=some {fi with con:=none,mn:=none})/\(∀g,fi.con=some g->wv P f g)/\∀g,fi.mn=some g->yy P f g
theorem tk0 {P:Program} {f:FuncId} {fi:an} {fn:Func} {p:Nat} (h:P.funcs[f]? =some fn) (hc:qV P fn p=some fi) (h1:fi.con=none:=by rfl) (h2:fi.mn=none:=by rfl):
   (∃fn p,P.funcs[f]? =some fn/\qV P fn p=some {fi with con:=none,mn:=none})/\(∀g,fi.con=some g->wv P f g)/\∀g,fi.mn=some g->yy P f g:=by
 refine⟨⟨fn,p,h, ?_⟩,(fun g hg=>by rw[h1]at hg;cases hg),(fun g hg=>by rw[h2]at hg;cases hg)⟩;rw[hc];obtain⟨_,_,_,_,_,_⟩:=fi;cases h1;cases h2;rfl
theorem kV {fn:Func} {p:Nat} {fi:an} (h:qV P fn p=some fi):∃c,fn.body=some c/\bq P c=some fi.body/\cK (DC P) fn.results.toList=some fi.res/\fi.np=fn.ntmps/\(fn.name== "runtime.NumGoroutine")=false:=by
 unfold qV at h;split at h
 . rename_i c hb;split at h
   . rename_i c' rs h1 h2;split at h
     . cases h
     . rename_i hn;cases h;exact⟨c,hb,h1,h2,rfl,by simpa using hn⟩
   . cases h
 . cases h
theorem eS {f:FuncId} {fn:Func} {c:Code} (hf:P.funcs[f]? =some fn) (hb:fn.body=some c) (hn:(fn.name== "runtime.NumGoroutine")=false) (us:Array Value):(callFunc f us).run P W= .ok (.enter f us) W:=by
 simp only[callFunc,Sem.run_bind];have:(program).run P W= .ok P W:=rfl;simp only[this,Result.andThen_ok,hf,hn,hb];rfl
theorem zq {args:List AV} {us:Array Value} (h:aj V args us.toList) (np:Nat):FrR V (fr0 np args) {tmps:=us++Array.replicate (np-us.size) undef,defers:=[]}:=by
 refine⟨?_,trivial⟩
 have hl:args.length=us.size:=by have:=h.1;simpa using this
 have:=h.append (aj.replicate V (np-args.length) (Rep.undef V));rw[hl]at this;simpa[fr0,hl] using this
def ft (V:View):Mode->FrameMode->Prop
 | .returning,.returning=>True
 | .panicking c,.panicking ch=>ChR V c ch
 |_,_=>False
theorem ft.mono {V V':View} (hV:V.Le V') {u:Mode} {m:FrameMode} (h:ft V u m):ft V' u m:=by
 cases u<;>cases m<;>first|exact h|exact ChR.mono hV h
theorem ft.ne {u:Mode} {m:FrameMode} (h:ft V u m):m≠ .run:=by rintro rfl;cases u<;>exact h.elim
theorem jV:∀{c:List (AV×Bool)} {ch:List PanicEntry},ChR V c ch->ch.dropWhile (fun x=> !x.goexit)=[]
 |[],[],_=>rfl
 | _::_,p::ps,h=>by
   rw[List.dropWhile_cons,h.2.2.1];exact jV h.2.2.2
 |[],_::_,h=>h.elim
 |_::_,[],h=>h.elim
theorem CA {u:Mode} {m:FrameMode} (h:ft V u m):ft V (uc u) (settle m):=by
 cases u with
 |returning=>cases m<;>first|exact h.elim|trivial
 | panicking c=>
   cases m<;>try exact h.elim
   rename_i ch
   match c,ch,h with
   |[],[],_=>trivial
   | (v,true)::c',p::ps,h=>
     obtain⟨pv,pr,pg⟩:=p;obtain⟨h1,h2,h3,h4⟩:=h;simp only at h2;subst h2;have e:=jV h4;simp only[uc,settle,e];trivial
   | (v,false)::c',p::ps,h=>
     obtain⟨pv,pr,pg⟩:=p;have h2:=h.2.1;simp only at h2;subst h2;exact h
theorem p6:∀{c:List (AV×Bool)} {ch:List PanicEntry} {d:List (AV×Bool)} {dh:List PanicEntry},ChR V c ch->ChR V d dh->ChR V (c++d) (ch++dh)
 |[],[],_,_,_,h=>h
 |_::_,_::_,_,_,h,k=>⟨h.1,h.2.1,h.2.2.1,p6 h.2.2.2 k⟩
 |[],_::_,_,_,h,_=>h.elim
 |_::_,[],_,_,h,_=>h.elim
theorem Br {u:Mode} {m:FrameMode} (h:ft V u m) {c:List (AV×Bool)} {ch:List PanicEntry} (k:ChR V c ch):ft V (AF u c) (raised m ch):=by
 cases u<;>cases m<;>first|exact h.elim|exact k|exact p6 k h
def sj (P:Program) (w0:World) (V:View) (c₀:Frame) (cs:List Frame) (r:Ex×Fr×ab×Mode) (Q:Exit->Act->List Frame->World->Prop):Prop:=
 ∀V' a' W' ex m,bO w0 V V'->WR P w0 V' r.2.2.1 W'->FrR V' r.2.1 a'->ExR V' r.1 ex->ft V' r.2.2.2 m->Q ex a' ({c₀ with mode:=m}::cs) W'
theorem sj.mono {V V':View} {c₀:Frame} {cs:List Frame} {r:Ex×Fr×ab×Mode} {Q:Exit->Act->List Frame->World->Prop} (h:sj P w0 V c₀ cs r Q) (g:bO w0 V V'):sj P w0 V' c₀ cs r Q:=
 fun V'' a' W' ex m k1=>h V'' a' W' ex m (g.trans k1)
theorem yp {cb:CB} {ops:Array Oper} {c₀:Frame} {cs:List Frame} {Q:Exit->Act->List Frame->World->Prop} {r:Ex×Fr×ab×Mode}:∀(l:List Oper) (k:Nat) (os:List ai) (V:View) (fr:Fr) (H:ab) (a:Act) (W:World) (u:Mode) (m:FrameMode),
   (∀j,l[j]? =ops[k+j]?)->cK (dE P ops) l=some os->FrR V fr a->WR P w0 V H W->ft V u m->cT cb os fr H u=some r->sj P w0 V c₀ cs r Q→
   wpOpsSIn (Fk none) 0 P ops Q (List.range' k l.length) a ({c₀ with mode:=m}::cs) W:=by
 intro l
 induction l with
 | nil=>
   intro k os V fr H a W u m _ hm hF hW hu h hQ;cases hm;cases h;exact hQ V a W .normal m (.refl w0 V) hW hF trivial hu
 | cons o l ih=>
   intro k os V fr H a W u m hl hm hF hW hu h hQ
   have h0:ops[k]? =some o:=by simpa using(hl 0).symm
   have hl':∀j,l[j]? =ops[k+1+j]? :=fun j=>by have:=hl (j+1);simpa[Nat.add_assoc,Nat.add_comm 1 j] using this
   simp only[cK]at hm;split at hm
   . rename_i ao os' hc hos;cases hm;obtain⟨hop,hdst⟩:=gI hc;simp only[List.length_cons,List.range'_succ,wpOpsSIn,h0];refine⟨fun _ _=>trivial, ?_⟩;rw[fH hF.tm hc];simp only[cT]at h;split at h
     . rename_i hw;rw[if_pos hw];split at h
       . rename_i v hv;obtain⟨V',W',x,h1,h2,h3,h4,_⟩:=gy hW hF.tm hop hv;rw[h1];have g:=h3.grow hW.size (by simp);simp only[hdst];exact ih (k+1) os' V' _ H _ W' u m hl' hos (bJ hF h3.le h2 _) h4 (hu.mono h3.le) h (hQ.mono g)
       . split at h
         . rename_i hao;obtain⟨_,hrun⟩:=cu (nx:= .fy) (H':=H) hW hF.tm hop (by rw[hao];rfl);rw[hrun];split at h
           . rename_i v older
             cases m<;>try exact hu.elim
             rename_i ch
             match ch,hu with
             | p::ps,hu=>
               obtain⟨pv,pr,pg⟩:=p;obtain⟨e1,e2,e3,e4⟩:=hu;simp only at e2 e3;subst e2 e3;simp only[recoverD,hdst];exact ih (k+1) os' V _ H _ W (.panicking ((v,true)::older)) _ hl' hos (bJ hF (.refl V) e1 _) hW ⟨e1,rfl,rfl,e4⟩ h hQ
           . rename_i hno
             have hrec:recoverD ({c₀ with mode:=m}::cs)=none:=by
               simp only[recoverD];split
               . exfalso
                 cases u with
                 |returning=>exact hu.elim
                 | panicking c=>
                   match c,hu with
                   | (x,b)::c',hu=>
                     have:=hu.2.1;simp only at this;subst this;exact hno _ _ rfl
               . rfl
             simp only[hrec,hdst];exact ih (k+1) os' V _ H _ W u m hl' hos (bJ hF (.refl V) .fI _) hW hu h hQ
         . cases h
     . rename_i hw;rw[if_neg hw];simp only[hdst];exact ih (k+1) os' V _ H _ W u m hl' hos (bJ hF (.refl V) (Rep.undef V) _) hW hu h hQ
   . cases hm
theorem D2 {cb:CB} (hcb:fD P cb) {c₀:Frame} {cs:List Frame}:∀(c:Code) (ac:aH),bq P c=some ac->∀(V:View) (fr:Fr) (H:ab) (a:Act) (W:World) (u:Mode) (m:FrameMode) (r:Ex×Fr×ab×Mode) (Q:Exit->Act->List Frame->World->Prop),
   FrR V fr a->WR P w0 V H W->ft V u m->cU cb ac fr H u=some r->sj P w0 V c₀ cs r Q->c.wpSIn (Fk none) 0 P Q a ({c₀ with mode:=m}::cs) W:=by
 have plain:∀(c:Code) (ac:aH),bq P c=some ac->∀(V:View) (fr:Fr) (H:ab) (a:Act) (W:World) (u:Mode) (m:FrameMode) (r:Ex×Fr×ab×Mode) (Q:Exit->Act->List Frame->World->Prop),
     FrR V fr a->WR P w0 V H W->ft V u m->(match aN cb none ac fr H with
       |some (e,fr',H')=>some (e,fr',H',u)
       |none=>none)=some r->sj P w0 V c₀ cs r Q->c.wpSIn (Fk none) 0 P Q a ({c₀ with mode:=m}::cs) W:=by
   intro c ac hc V fr H a W u m r Q hF hW hu h hQ;split at h
   . rename_i e fr' H' hr;cases h;exact wpSIn_of_wpIn rfl (gQ hcb none c ac hc w0 none V fr H a W _ _ hr trivial hF hW (fun V' a' W' ex g1 g2 g3 g4=>hQ V' a' W' ex m g1 g2 g3 g4 (hu.mono g1.le)))
   . cases h
 intro c
 induction c with
 | region id ops d=>
   intro ac hc V fr H a W u m r Q hF hW hu h hQ;have hc0:=hc
   cases hcr:fK P ops d with
   | none=>
     simp only[bq,hcr,Option.getD_none,Option.some.injEq]at hc;subst hc;cases h
   |some ac'=>
   have hce:ac=ac':=by
     simp only[bq,hcr,Option.getD_some,Option.some.injEq]at hc;exact hc.symm
   subst hce;have hc:=hcr
   cases d with
   | false=>
     obtain⟨os,hos,rfl⟩:=gW P hc;simp only[cU]at h;split at h
     . refine wpSIn_region ?_;rw[List.range_eq_range',<-Array.length_toList];exact yp ops.toList 0 os V fr H a W u m (fun j=>by simp) hos hF hW hu h hQ
     . exact plain _ _ hc0 V fr H a W u m r Q hF hW hu h hQ
   | true=>
     obtain⟨pre,tail,rfl⟩:=iL P hc;exact plain _ _ hc0 V fr H a W u m r Q hF hW hu h hQ
 | seq x y ihx ihy=>
   intro ac hc V fr H a W u m r Q hF hW hu h hQ;simp only[bq]at hc;split at hc
   . rename_i ax ay hx hy;cases hc;simp only[cU]at h;refine wpSIn_seq ?_
     cases hr:cU cb ax fr H u with
     |none=>rw[hr]at h;cases h
     | some q=>
       refine ihx ax hx V fr H a W u m q _ hF hW hu hr (fun V' a' W' ex m' g1 g2 g3 g4 g5=> ?_);rw[hr]at h;obtain⟨e,fr',H',u'⟩:=q
       cases e with
       | normal=>
         simp only at h
         cases ex<;>try exact g4.elim
         exact ihy ay hy V' fr' H' a' W' u' m' r Q g3 g2 g5 h (hQ.mono g1)
       |goto i=>cases h;cases ex<;>first|exact hQ V' a' W' _ m' g1 g2 g3 g4 g5|exact g4.elim
       |exit i=>cases h;cases ex<;>first|exact hQ V' a' W' _ m' g1 g2 g3 g4 g5|exact g4.elim
       |ret=>cases h;cases ex<;>first|exact hQ V' a' W' _ m' g1 g2 g3 g4 g5|exact g4.elim
       |panic ch=>cases h;cases ex<;>first|exact hQ V' a' W' _ m' g1 g2 g3 g4 g5|exact g4.elim
   . cases hc
 |refuse _=>intro ac hc;simp[bq]at hc
 | cond x y z=>
   intro ac hc;have hc0:=hc;simp only[bq]at hc
   split at hc<;>cases hc
   exact plain _ _ hc0
 | block id c=>
   intro ac hc;have hc0:=hc;simp only[bq]at hc;obtain⟨x,_,rfl⟩:=Option.map_eq_some_iff.1 hc;exact plain _ _ hc0
 | loop c=>
   intro ac hc;have hc0:=hc;simp only[bq]at hc;obtain⟨x,_,rfl⟩:=Option.map_eq_some_iff.1 hc;exact plain _ _ hc0
 | scope c=>
   intro ac hc;have hc0:=hc;simp only[bq]at hc;obtain⟨x,_,rfl⟩:=Option.map_eq_some_iff.1 hc;exact plain _ _ hc0
 | rangeFunc f ps x y=>
   intro ac hc;have hc0:=hc;simp only[bq]at hc
   split at hc<;>cases hc
   exact plain _ _ hc0
 | _=>
   intro ac hc;have hc0:=hc;simp only[bq,Option.some.injEq]at hc;subst hc;exact plain _ _ hc0
theorem wg {cb:CB} (hcb:fD P cb) {f:FuncId} {fn:Func} {p:Nat} {fi:an} (hf:P.funcs[f]? =some fn) (hc:qV P fn p=some {fi with con:=none,mn:=none}) {args:List AV} {us:Array Value} {u u':Mode} {m:FrameMode} {o:Out} {H':ab} {R:Ending->FrameMode->World->Prop}
   (hr:aj V args us.toList) (hW:WR P w0 V H W) (hu:ft V u m) (h:lS cb fi args H u=some (o,H',u'))
   (hR:∀V' W' e m',bO w0 V V'->WR P w0 V' H' W'->yK V' o e->ft V' u' m'->R e m' W'):CallsDIn (Fk none) 0 P f us m W R:=by
 obtain⟨c,hb,hcc,hres,hnp,_⟩:=kV hc;refine callsDIn_of_wpSIn hf hb trivial (fun c₀ cs hm=> ?_);unfold lS at h;split at h
 . rename_i e fr' H1 u1 hrun;rw[hnp]at hrun
   have hc0:(c₀::cs)=({c₀ with mode:=m}::cs):=by rw[<-hm]
   rw[hc0];refine D2 hcb c fi.body hcc V _ H _ W u m _ _ (zq hr fn.ntmps) hW hu hrun (fun V' a' W' ex m' g1 g2 g3 g4 g5=> ?_)
   have nod:∀(hd:fr'.df=[]),a'.defers=[]:=by
     intro hd;have:=g3.df;rw[hd]at this
     cases hx:a'.defers with
     |nil=>rfl
     |cons d ds=>rw[hx]at this;exact this.elim
   have fin:∀(vs:List AV),fr'.df=[]->kT fr'.tm H1 fi.res=some vs->(Out.ret (ae vs),H1,u1)=(o,H',u')→
       a'.defers=[]/\∃m'',({c₀ with mode:=m'}::cs:List Frame)={c₀ with mode:=m''}::cs/\∃v,(results fn a'.tmps).run P W'= .ok v W'/\R (.returned v) m'' W':=by
     intro vs hd hvs heq;cases heq;obtain⟨v,k1,k2⟩:=kQ g2 g3.tm hres hvs;exact⟨nod hd,m',rfl,v,k1,hR V' W' _ m' g1 g2 k2 g5⟩
   split at h
   . rename_i hd
     cases ex<;>try exact g4.elim
     obtain⟨vs,hvs,heq⟩:=Option.map_eq_some_iff.1 h;exact fin vs hd hvs heq
   . rename_i hd
     cases ex<;>try exact g4.elim
     obtain⟨vs,hvs,heq⟩:=Option.map_eq_some_iff.1 h;exact fin vs hd hvs heq
   . rename_i ch hd
     cases ex<;>try exact g4.elim
     cases h;exact⟨nod hd,m',rfl,hR V' W' _ m' g1 g2 g4 g5⟩
   . cases h
 . cases h
theorem jy {cb:CB} (hcb:fD P cb) {tab:FuncId->Option an} (htab:ia P tab) {fn:Func} {tmps:Array Value} {R:Ending->World->Prop} {u':Mode} {H':ab}:∀(ds:List ADf) (es:List Deferred) (V:View) (H:ab) (W:World) (u:Mode) (m:FrameMode),
   DfL V ds es->WR P w0 V H W->ft V u m->b6 tab cb ds u H=some (u',H')→
   (∀V' W' m',bO w0 V V'->WR P w0 V' H' W'->ft V' u' m'->LeavesInM (Fk none) 0 P fn tmps R [] m' W')->LeavesInM (Fk none) 0 P fn tmps R es m W
 | [],[],V,H,W,u,m,_,hW,hu,h,hR=>by
   cases h;exact hR V W m (.refl w0 V) hW hu
 | .mark id::ds,e::es,V,H,W,u,m,hd,hW,hu,h,hR=>by
   obtain⟨⟨b,ht,hl⟩,hds⟩:=hd;simp only[b6]at h;split at h
   . rename_i hobj;obtain⟨b',hb',hge,hh⟩:=hW.obj id _ hobj;rw[hl]at hb';cases hb'
     have hrun:(Instr.takeDeferred b).run P W= .ok [] {W with heap:=W.heap.setIfInBounds b (.deferred none)}:=by
       have hg:(getObj b).run P W= .ok (.deferred (some [])) W:=by simp[getObj,Sem.run,hh]
       simp only[Instr.takeDeferred,Sem.run_bind,hg,Result.andThen_ok];simp[setObj,Sem.run,hh]
     refine⟨hu.ne,.inl ⟨b,_,ht,hrun, ?_⟩⟩;have hup:=hW.upd (o':= .dead) hobj rfl (by simp[aK,hl]:aK V id=some b) (cB W b (.deferred none)) (fun p v hp=> ?_) trivial (fun _=>trivial)
     . exact jy hcb htab ds es V _ _ u m hds hup hu h hR
     . obtain⟨hc,_⟩:=hW.imm p v hp;refine(cB W b _).cell hc (fun e=> ?_);simp only[Option.some.injEq]at e;unfold World.cell? at hc;rw[e,hh]at hc;cases hc
   . cases h
 | .call f args::ds,e::es,V,H,W,u,m,hd,hW,hu,h,hR=>by
   obtain⟨⟨caps,ht,hr⟩,hds⟩:=hd;simp only[b6]at h;split at h
   . rename_i fi hfi;obtain⟨⟨fnc,p,hf,hc⟩,_⟩:=htab f fi hfi;obtain⟨c,hb,_,_,_,hn⟩:=kV hc
     have hinv:(invoke e.target e.args).run P W= .ok (.enter f (e.args++caps)) W:=by
       rw[ht];exact eS hf hb hn _
     split at h
     . rename_i v H1 u1 hbd;refine⟨hu.ne,.inr ⟨by simp[Fk],.func f,caps,f,e.args++caps,ht,hinv,fun _ _=>trivial,wg hcb hf hc hr hW hu hbd (fun V' W' e' m' g1 g2 g3 g4=> ?_)⟩⟩
       cases e'<;>try exact g3.elim
       exact jy hcb htab ds es V' H1 W' _ _ (hds.mono g1.le) g2 (CA g4) h (fun V'' W'' m'' k1=>hR V'' W'' m'' (g1.trans k1))
     . rename_i ch H1 u1 hbd;refine⟨hu.ne,.inr ⟨by simp[Fk],.func f,caps,f,e.args++caps,ht,hinv,fun _ _=>trivial,wg hcb hf hc hr hW hu hbd (fun V' W' e' m' g1 g2 g3 g4=> ?_)⟩⟩
       cases e'<;>try exact g3.elim
       exact jy hcb htab ds es V' H1 W' _ _ (hds.mono g1.le) g2 (Br g4 g3) h (fun V'' W'' m'' k1=>hR V'' W'' m'' (g1.trans k1))
     . cases h
   . cases h
 |[],_::_,_,_,_,_,_,hd,_,_,_,_=>hd.elim
 | .mark _::_,[],_,_,_,_,_,hd,_,_,_,_=>hd.elim
 | .call _ _::_,[],_,_,_,_,_,hd,_,_,_,_=>hd.elim
theorem zC {cb:CB} (hcb:fD P cb) {tab:FuncId->Option an} (htab:ia P tab) {f:FuncId} {fn:Func} {p:Nat} {fi:an} (hf:P.funcs[f]? =some fn) (hc:qV P fn p=some {fi with con:=none,mn:=none}) {args:List AV} {us:Array Value} {o:Out} {H':ab}
   (hr:aj V args us.toList) (hW:WR P w0 V H W) (h:fR tab cb fi args H=some (o,H')):(callFunc f us).run P W= .ok (.enter f us) W/\CallsIn (Fk none) 0 P f us W (fL P w0 V H' o):=by
 obtain⟨c,hb,hcc,hres,hnp,hn⟩:=kV hc;refine⟨eS hf hb hn us,callsIn_of_wp_marks hf hb trivial ?_⟩;unfold fR at h;split at h
 . rename_i e fr H1 hrun;rw[hnp]at hrun;refine gQ hcb none c fi.body hcc w0 none V _ H _ W _ _ hrun trivial (zq hr fn.ntmps) hW (fun V' a' W' ex g1 g2 g3 g4=> ?_)
   have fin:∀(u:Mode) (m:FrameMode),ft V' u m->(match b6 tab cb fr.df u H1 with
       |some (.returning,H2)=>(kT fr.tm H2 fi.res).map fun vs=>(Out.ret (ae vs),H2)
       |some (.panicking c,H2)=>some (.pan c,H2)
       |none=>none)=some (o,H')->LeavesInM (Fk none) 0 P fn a'.tmps (fL P w0 V H' o) a'.defers m W':=by
     intro u m hu h;split at h
     . rename_i H2 hl;obtain⟨vs,hvs,heq⟩:=Option.map_eq_some_iff.1 h;cases heq;refine jy hcb htab fr.df a'.defers V' H1 W' u m g3.df g2 hu hl (fun V'' W'' m'' k1 k2 k3=> ?_)
       cases m''<;>try exact k3.elim
       obtain⟨v,j1,j2⟩:=kQ k2 (g3.tm.mono k1.le) hres hvs;exact⟨v,j1,V'',g1.trans k1,k2,j2⟩
     . rename_i c' H2 hl;cases h;refine jy hcb htab fr.df a'.defers V' H1 W' u m g3.df g2 hu hl (fun V'' W'' m'' k1 k2 k3=> ?_)
       cases m''<;>try exact k3.elim
       exact⟨V'',g1.trans k1,k2,k3⟩
     . cases h
   cases e with
   | normal => cases ex<;>try exact g4.elim
               exact fin .returning .returning trivial h
   | ret => cases ex<;>try exact g4.elim
            exact fin .returning .returning trivial h
   | panic ch => cases ex<;>try exact g4.elim
                 exact fin (.panicking ch) _ g4 h
   |exit i=>cases h
   |goto i=>cases h
 . cases h
end Go.Am
