/- RANGES OVER MAPS, BY WALKS. No condition but those stated. -/
import Derived.Test.YtephfpdnhdpmkaaGreatDoorAmMap
import Derived.Test.YtephfpdnhdpmkaaGreatDoorAmSet
set_option linter.all false
namespace Go.Am
open Go Go.RowKit
set_option linter.unusedSectionVars false
variable [dy] {P:Program} {w0:World} {V:View} {H:ab} {W:World} {a:Act}
theorem DT {tab:FuncId->Option an} (htab:ia P tab):fD P (cbL tab):=
 ⟨fun f args r h=>by obtain⟨n,k⟩:=dC.1 h;exact(kE htab n).pc f args r k,
  fun f args H o H' h=>by obtain⟨n,k⟩:=g7.1 h;exact(kE htab n).ic f args H o H' k,
  fun id args H o H' h=>by obtain⟨n,k⟩:=kD.1 h;exact(kE htab n).yl id args H o H' k,
  fun rd c ac hc=>fun w0 ro V fr H a W r Q h=>by obtain⟨n,k⟩:=gh.1 h;exact(kE htab n).loop rd c ac hc w0 ro V fr H a W r Q k,
  fun rd c w x ax hw hx=>fun w0 ro V fr H a W r Q h=>by obtain⟨n,k⟩:=gh.1 h;exact(kE htab n).scope rd c w x ax hw hx w0 ro V fr H a W r Q k⟩
theorem FC {tab:FuncId->Option an} (htab:ia P tab) {c:Code} {ac:aH} (hc:bq P c=some ac) {n:Nat} (hf:ac.fits n=true) {fr:Fr} {E:Env} (ha:Ag n fr.tm E) (hdf:fr.df=[]) (hF:FrR V fr a) (hW:WR P w0 V H W)
   {K:KP} (h:Ret (cbL tab) none n K [.code ac] .normal E [] H) {Q:Exit->Act->World->Prop}
   (hQ:∀e E' H' fr' V' a' W' ex,K e E' fr'.df H'->bO w0 V V'->WR P w0 V' H' W'->FrR V' fr' a'->Ag n fr'.tm E'->ExR V' e ex->Q ex a' W'):c.wpIn (Fk none) 0 P Q a W:=by
 obtain⟨tm,df⟩:=fr;subst hdf;have h:wpc (cbL tab) none n ac (Ret (cbL tab) none n K []) E [] H:=h;obtain⟨e,fr',H',h1,E',h2,h3⟩:=nj ac _ E [] H tm hf (.inl rfl) ha h;have h3:K e E' fr'.df H':=h3
 exact gQ (DT htab) none c ac hc w0 none V _ H a W _ Q h1 trivial hF hW fun V' a' W' ex g1 g2 g3 g4=>hQ e E' H' fr' V' a' W' ex h3 g1 g2 g3 h2 g4
theorem DQ {tab:FuncId->Option an} (htab:ia P tab) {c:Code} {os1:List ai} {x':X} {it nx mo pr:Nat} {os3:List ai} {nxt:Nat} {abd:aH} (R:Ir P c os1 x' it nx mo pr os3 nxt abd) {n:Nat}
   (f1:k9 n os1=true) (f3:(aH.seq (.region os3) abd).fits n=true) (lt:it<n/\nx<n/\mo<n/\pr<n) (hne:it≠nx/\it≠mo)
   {fr:Fr} {E E1:Env} {H1:ab} (ha:Ag n fr.tm E) (hdf:fr.df=[]) (hF:FrR V fr a) (hW:WR P w0 V H W) {Q:Exit->Act->World->Prop} {m:Nat} {es:List (AV×AV)}
   (hpre:RR (cbL tab) none n (fun e E' df' H'=>e= .normal/\E'=E1/\df'=[]/\H'=H1) os1 [] E [] H) (hx:x'.evE E1= .mp m) (hm:H1[m]? =some (.map es))
   (A:List Nat->Env->ab->Prop)
   (hA0:∀o,A [] (upd E1 it (.ptr H1.length 0)) (H1++[.raw o]))
   (hA:∀vis E H,A vis E H->E it= .ptr H1.length 0/\(∃o,H[H1.length]? =some (.raw o))/\H[m]? =some (.map es))
   (hstep:∀vis E H i k v o,A vis E H->i∉vis->es[i]? =some (k,v)->Ret (cbL tab) none n (fun e E' df' H'=>(e= .normal∨e= .exit nxt)/\df'=[]/\H'[H1.length]? =some (.raw o)/\A (i::vis) E' H') [.code (.seq (.region os3) abd)] .normal (upd (upd (upd E nx (.tup [.bool true,k,v])) mo (.bool true)) pr (.tup [k,v])) [] (H.set H1.length (.raw o)))
   (hend:∀vis E H V' a' W' fr',A vis E H->(∀i,i<es.length->i∈vis)->bO w0 V V'->WR P w0 V' H W'->FrR V' fr' a'->fr'.df=[]->Ag n fr'.tm (upd (upd E nx (.tup [.bool false])) mo (.bool false))->Q .normal a' W'):
   c.wpIn (Fk none) 0 P Q a W:=by
 obtain⟨tm,df⟩:=fr;subst hdf;have hpre:wpr (cbL tab) (Ret (cbL tab) none n (fun e E' df' H'=>e= .normal/\E'=E1/\df'=[]/\H'=H1) []) os1 E [] H:=hpre;obtain⟨e,fr1,H1',h1,E1',h2,h3⟩:=yZ os1 E [] H tm f1 (.inl rfl) ha hpre;have h3:e= .normal/\E1'=E1/\fr1.df=[]/\H1'=H1:=h3;obtain⟨rfl,rfl,hdf1,rfl⟩:=h3;obtain⟨tm1,df1⟩:=fr1;have hdf1:df1=[]:=hdf1;subst hdf1
 have at_:∀{tm:List AV} {E:Env},Ag n tm E->∀{i:Nat} {v:AV},i<n->E i=v->tm[i]? =some v:=fun{tm E} h {i v} hi hv=>by
   have:EV tm i=v:=by rw[h.2];exact hv
   unfold EV at this;rw[List.getD_eq_getElem?_getD,List.getElem?_eq_getElem (by rw[h.1];exact hi)]at this;rw[List.getElem?_eq_getElem (by rw[h.1];exact hi)];exact congrArg some this
 refine HN (DT htab) R hF hW h1 (by rw[hI,h2.2];exact hx) hm (fun vis fr H=>fr.df=[]/\∃E,Ag n fr.tm E/\A vis E H) (fun o=>⟨rfl,_,h2.set lt.1 _,hA0 o⟩) ?_ hne ?_ ?_
 . rintro vis ⟨tm,df⟩ H ⟨rfl,E,hE,hAv⟩
   obtain⟨q1,q2,q3⟩:=hA _ _ _ hAv;refine⟨at_ hE lt.1 q1,q2,q3, ?_, ?_⟩
   . show nx<tm.length;rw[hE.1];exact lt.2.1
   . show mo<tm.length;rw[hE.1];exact lt.2.2.1
 . rintro vis ⟨tm,df⟩ H i k v o ⟨rfl,E,hE,hAv⟩ hi hkv
   have hs:=hstep vis E H i k v o hAv hi hkv;have hs:wpc (cbL tab) none n (.seq (.region os3) abd) (Ret (cbL tab) none n _ []) _ [] _:=hs;obtain⟨e,fr',H',k1,E',k2,k3⟩:=nj _ _ _ [] _ _ f3 (.inl rfl) (((hE.set lt.2.1 (.tup [.bool true,k,v])).set lt.2.2.1 (.bool true)).set lt.2.2.2 (.tup [k,v])) hs;obtain⟨j1,j2,j3,j4⟩:=k3;exact⟨e,fr',H',j1,k1,j3,j2,E',k2,j4⟩
 . rintro vis ⟨tm,df⟩ H V' a' W' ⟨rfl,E,hE,hAv⟩ hall g1 g2 g3
   exact hend vis E H V' a' W' _ hAv hall g1 g2 g3 rfl ((hE.set lt.2.1 _).set lt.2.2.1 _)
theorem Mt {f:FuncId} {fn:Func} {c:Code} {us:Array Value} {H':ab} (hf:P.funcs[f]? =some fn) (hb:fn.body=some c) (hr:fn.results= #[])
   (h:∀Q:Exit->Act->World->Prop,(∀V' a' W' fr',bO w0 V V'->WR P w0 V' H' W'->FrR V' fr' a'->fr'.df=[]->Q .normal a' W')->c.wpIn (Fk none) 0 P Q {tmps:=us++Array.replicate (fn.ntmps-us.size) undef,defers:=[]} W):
   CallsIn (Fk none) 0 P f us W (fL P w0 V H' (.ret (.tup []))):=by
 refine callsIn_of_wp_marks hf hb trivial (h _ fun V' a' W' fr' g1 g2 g3 hd=> ?_);have hdf:=g3.df;rw[hd]at hdf;obtain⟨tm',df'⟩:=a'
 cases df' with
 |cons d ds=>exact hdf.elim
 | nil=>
   obtain⟨u,j1,j2⟩:=kQ (P:=P) g2 g3.tm (fn:=fn) (ars:=[]) (vs:=[]) (by rw[hr];rfl) rfl;show LeavesInM (Fk none) 0 P fn tm' _ [] .returning W'
   exact⟨u,j1,V',g1,g2,j2⟩
theorem WR.cut {G:ab} (hW:WR P w0 V G W) (hl:H.length<=G.length) (he:∀i,i<H.length->G[i]? =H[i]?):WR P w0 V (H++List.replicate (G.length-H.length) .dead) W:=by
 have get:∀(i:Nat) (o:av),(H++List.replicate (G.length-H.length) av.dead)[i]? =some o->o.live=true->G[i]? =some o:=fun i o hi ho=>by
   rw[List.getElem?_append]at hi;split at hi
   . rename_i h;rw[he i h];exact hi
   . rw[List.getElem?_replicate]at hi;split at hi
     . cases hi;cases ho
     . cases hi
 refine⟨hW.below,hW.imm,fun i o hi=> ?_,fun i j o q b h1 h2 l1 l2=>hW.inj i j o q b (get i o h1 l1) (get j q h2 l2) l1 l2,fun i hi=>hW.fresh i (by rw[List.length_append,List.length_replicate]at hi;omega),hW.mz⟩
 cases o with
 |dead=>trivial
 |_=>exact hW.obj i _ (get i _ hi rfl)
end Go.Am
