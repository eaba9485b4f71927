/- CODE: the interpreter's run of it stands for the model's. No condition. -/
import Derived.Test.YtephfpdnhdpmkaaGreatDoorAmPerm
set_option linter.all false
namespace Go.Am
open Go Go.RowKit
set_option linter.unusedSectionVars false
variable [dy]
variable {P:Program} {w0:World} {V:View} {H:ab} {W:World} {tm:List AV} {a:Act}
section steps
variable {b:Frame} {k:List Item} {cs:List Frame} {w:World}
theorem tT {c:Code}:step P (lone (b.atR a (.code (.scope c)::k)) cs w)= .next (lone (b.atR a (.code c:: .inScope c::k)) cs w):=
 step_lone_go (by simp[stepG,stepG.exec,Frame.atR])
theorem oR {c:Code}:step P (lone (b.atR a (.inScope c::k)) cs w)= .next (lone (b.atR a k) cs w):=
 step_lone_go (by simp[stepG,stepG.exec,Frame.atR])
end steps
theorem w7:∀(c:Code) (ac:aH) (l:Nat),bq P c=some ac→
   (∀r,e7 ac l=some r->∃rest,findLabel c l=some rest/\bq P rest=some r)/\(e7 ac l=none->findLabel c l=none):=by
 intro c
 induction c with
 | seq x y ihx ihy=>
   intro ac l hc;simp only[bq]at hc;split at hc
   . rename_i ax ay hx hy;cases hc;obtain⟨h1,h2⟩:=ihx ax l hx;obtain⟨h3,h4⟩:=ihy ay l hy;constructor
     . intro r hr;simp only[e7]at hr;simp only[findLabel]
       cases ha:e7 ax l with
       | some rest=>
         simp only[ha]at hr;cases hr;obtain⟨rest',k1,k2⟩:=h1 rest ha;exact⟨.seq rest' y,by rw[k1],by simp[bq,k2,hy]⟩
       | none=>
         simp only[ha]at hr;rw[h2 ha];exact h3 r hr
     . intro hr;simp only[e7]at hr;simp only[findLabel]
       cases ha:e7 ax l with
       |some rest=>simp[ha]at hr
       | none=>
         simp only[ha]at hr;rw[h2 ha];exact h4 hr
   . cases hc
 | label l'=>
   intro ac l hc;simp only[bq,Option.some.injEq]at hc;subst hc;simp only[e7,findLabel];by_cases h:(l'==l)=true
   . simp only[h,if_true];exact⟨fun r hr=>by cases hr;exact⟨.skip,rfl,rfl⟩,fun hr=>by cases hr⟩
   . simp only[h];exact⟨fun r hr=>by simp at hr,fun _=>by simp⟩
 | region id ops d=>
   intro ac l hc
   have:e7 ac l=none:=by
     simp only[bq,Option.some.injEq]at hc
     cases hcr:fK P ops d with
     |none=>rw[hcr]at hc;subst hc;rfl
     | some ac'=>
       rw[hcr]at hc;subst hc
       cases d with
       |true=>obtain⟨pre,tail,rfl⟩:=iL P hcr;rfl
       |false=>obtain⟨os,_,rfl⟩:=gW P hcr;rfl
   rw[this];exact⟨fun r hr=>(by cases hr),fun _=>rfl⟩
 | cond x y z=>
   intro ac l hc;simp only[bq]at hc
   split at hc<;>cases hc
   exact⟨fun r hr=>(by cases hr),fun _=>rfl⟩
 | block id c=>
   intro ac l hc;simp only[bq]at hc;obtain⟨x,_,rfl⟩:=Option.map_eq_some_iff.1 hc;exact⟨fun r hr=>(by cases hr),fun _=>rfl⟩
 | loop c=>
   intro ac l hc;simp only[bq]at hc;obtain⟨x,_,rfl⟩:=Option.map_eq_some_iff.1 hc;exact⟨fun r hr=>(by cases hr),fun _=>rfl⟩
 | scope c=>
   intro ac l hc;simp only[bq]at hc;obtain⟨x,_,rfl⟩:=Option.map_eq_some_iff.1 hc;exact⟨fun r hr=>(by cases hr),fun _=>rfl⟩
 | rangeFunc f ps x y=>
   intro ac l hc;simp only[bq]at hc
   split at hc<;>cases hc
   exact⟨fun r hr=>(by cases hr),fun _=>rfl⟩
 |refuse _=>intro ac l hc;simp[bq]at hc
 | _=>
   intro ac l hc;simp only[bq,Option.some.injEq]at hc;subst hc;exact⟨fun r hr=>(by cases hr),fun _=>rfl⟩
theorem oh {F:Fence} {c:Code} {Q:Exit->Act->World->Prop} {w:World} (h:iP F P [.code c,.inLoop c] Q a w):(Code.loop c).wpIn F 0 P Q a w:=
 fun b k cs hro hb hr=>let ⟨e,a',w',q,r⟩:=h b k cs hro hb hr;⟨e,a',w',q,.of_steps (.one (fenced_calm hb hr rfl) stepR_loop) r⟩
theorem uC {F:Fence} {c:Code} {Q:Exit->Act->World->Prop} {w:World} (h:c.wpIn F 0 P (Exit.then (iP F P [.code c,.inLoop c] Q) Q) a w):iP F P [.code c,.inLoop c] Q a w:=by
 intro b k cs hro hb hr;obtain⟨e,a₁,w₁,hq,harr⟩:=h b (.inLoop c::k) cs hro hb hr
 cases e with
 | normal=>
   obtain⟨e₂,a₂,w₂,hq₂,harr₂⟩:=hq b k cs hro hb hr;exact⟨e₂,a₂,w₂,hq₂,.of_steps (StepsIn.trans harr (.one (fenced_calm hb hr rfl) stepR_inLoop)) harr₂⟩
 |exit id=>exact⟨_,a₁,w₁,hq,.pass (x:= .inLoop c) rfl (fun _ _=> .inl (by simp)) harr⟩
 |goto l=>exact⟨_,a₁,w₁,hq,.pass (x:= .inLoop c) rfl (fun _ _=> .inl (by simp)) harr⟩
 |ret=>exact⟨_,a₁,w₁,hq,.pass (x:= .inLoop c) rfl (fun _ _=> .inl (by simp)) harr⟩
 |panic ch=>exact⟨_,a₁,w₁,hq,.pass (x:= .inLoop c) rfl (fun _ _=> .inl (by simp)) harr⟩
 |outgrown=>exact⟨_,a₁,w₁,hq,.pass (x:= .inLoop c) rfl (fun _ _=> .inl (by simp)) harr⟩
def Exit.inScope (F:Fence) (P:Program) (c:Code) (Q:Exit->Act->World->Prop):Exit->Act->World->Prop
 | .goto l,a,w=>match findLabel c l with
   |some rest=>iP F P [.code rest,.inScope c] Q a w
   |none=>Q (.goto l) a w
 |e,a,w=>Q e a w
theorem qT {F:Fence} {c x:Code} {Q:Exit->Act->World->Prop} {w:World} (h:x.wpIn F 0 P (Exit.inScope F P c Q) a w):iP F P [.code x,.inScope c] Q a w:=by
 intro b k cs hro hb hr;obtain⟨e,a₁,w₁,hq,harr⟩:=h b (.inScope c::k) cs hro hb hr
 cases e with
 |normal=>exact⟨.normal,a₁,w₁,hq,StepsIn.trans harr (.one (fenced_calm hb hr rfl) oR)⟩
 | exit id=>
   have hx:exitTo id (.inScope c::k)=exitTo id k:=by simp[exitTo]
   exact⟨_,a₁,w₁,hq,fun k' hk=>harr.1 k' (by rw[hx];exact hk),fun hr' hk=>harr.2 hr' (by rw[hx];exact hk)⟩
 | goto l=>
   simp only[Exit.inScope]at hq;split at hq
   . rename_i rest hf;obtain⟨e₂,a₂,w₂,hq₂,harr₂⟩:=hq b k cs hro hb hr;exact⟨e₂,a₂,w₂,hq₂,.of_steps (harr.1 _ (by simp[gotoIn,hf])) harr₂⟩
   . rename_i hf
     have hx:gotoIn l (.inScope c::k)=gotoIn l k:=by simp[gotoIn,hf]
     exact⟨_,a₁,w₁,hq,fun k' hk=>harr.1 k' (by rw[hx];exact hk),fun hr' hk=>harr.2 hr' (by rw[hx];exact hk)⟩
 |ret=>exact⟨_,a₁,w₁,hq,harr⟩
 |panic ch=>exact⟨_,a₁,w₁,hq,harr⟩
 |outgrown=>exact⟨_,a₁,w₁,hq,harr⟩
theorem mY {F:Fence} {c:Code} {Q:Exit->Act->World->Prop} {w:World} (h:iP F P [.code c,.inScope c] Q a w):(Code.scope c).wpIn F 0 P Q a w:=
 fun b k cs hro hb hr=>let ⟨e,a',w',q,r⟩:=h b k cs hro hb hr;⟨e,a',w',q,.of_steps (.one (fenced_calm hb hr rfl) tT) r⟩
theorem xP {cb:CB} (hcb:fD P cb) {rd:Option Nat} {c x:Code} {w ax:aH} (hc:bq P c=some w) (hrun:yj P rd x (aN cb rd ax)):
   oz P rd [.code x,.inScope c] (aN cb rd (.b7 w ax)):=by
 intro w0 ro V fr H a W r Q h hrd hF hW hQ;simp only[aN]at h;refine qT ?_
 cases hr:aN cb rd ax fr H with
 |none=>rw[hr]at h;cases h
 | some q=>
   refine hrun w0 ro V fr H a W q _ hr hrd hF hW (fun V' a' W' ex g1 g2 g3 g4=> ?_);rw[hr]at h;obtain⟨e,fr',H'⟩:=q
   cases e with
   | goto l=>
     simp only at h
     cases ex<;>try exact g4.elim
     cases g4;simp only[Exit.inScope]
     cases hf:e7 w l with
     | some rest=>
       rw[hf]at h;obtain⟨rest',k1,k2⟩:=(w7 c w l hc).1 rest hf;rw[k1];exact hcb.scope rd c w rest' rest hc k2 w0 ro V' fr' H' a' W' r Q h (hrd.mono g1.le) g3 g2 (hQ.mono g1)
     | none=>
       rw[hf]at h;rw[(w7 c w l hc).2 hf];cases h;exact hQ V' a' W' _ g1 g2 g3 rfl
   |normal=>cases h;cases ex<;>first|exact hQ V' a' W' _ g1 g2 g3 g4|exact g4.elim
   |exit i=>cases h;cases ex<;>first|exact hQ V' a' W' _ g1 g2 g3 g4|exact g4.elim
   |ret=>cases h;cases ex<;>first|exact hQ V' a' W' _ g1 g2 g3 g4|exact g4.elim
   |panic ch=>cases h;cases ex<;>first|exact hQ V' a' W' _ g1 g2 g3 g4|exact g4.elim
theorem Al {cb:CB} (hcb:fD P cb) {rd:Option Nat} {c:Code} {ac:aH} (hc:bq P c=some ac) (hrun:yj P rd c (aN cb rd ac)):
   oz P rd [.code c,.inLoop c] (aN cb rd (.loop ac)):=by
 intro w0 ro V fr H a W r Q h hrd hF hW hQ;simp only[aN]at h;refine uC ?_
 cases hr:aN cb rd ac fr H with
 |none=>rw[hr]at h;cases h
 | some q=>
   refine hrun w0 ro V fr H a W q _ hr hrd hF hW (fun V' a' W' ex g1 g2 g3 g4=> ?_);rw[hr]at h;obtain⟨e,fr',H'⟩:=q
   cases e with
   | normal=>
     simp only at h
     cases ex<;>try exact g4.elim
     exact hcb.loop rd c ac hc w0 ro V' fr' H' a' W' r Q h (hrd.mono g1.le) g3 g2 (hQ.mono g1)
   |goto i=>cases h;cases ex<;>first|exact hQ V' a' W' _ g1 g2 g3 g4|exact g4.elim
   |exit i=>cases h;cases ex<;>first|exact hQ V' a' W' _ g1 g2 g3 g4|exact g4.elim
   |ret=>cases h;cases ex<;>first|exact hQ V' a' W' _ g1 g2 g3 g4|exact g4.elim
   |panic ch=>cases h;cases ex<;>first|exact hQ V' a' W' _ g1 g2 g3 g4|exact g4.elim
theorem WR.newObj (hW:WR P w0 V H W) {o:av} {ob:Obj} (ho:mU P w0 (V.at H.length (.blk W.heap.size)) (W.alloc ob) H.length o):bO w0 V (V.at H.length (.blk W.heap.size))/\WR P w0 (V.at H.length (.blk W.heap.size)) (H++[o]) (W.alloc ob):=by
 have hs:=uM (o:=ob) hW (.blk W.heap.size);refine⟨hs.grow hW.size (by simp),hW.push hs (jP hW _) (jk hW _) ho (fun b hb=> ?_)⟩;simp[aK,View.b8]at hb;omega
theorem qN (o:Obj):(newObj o).run P W= .ok W.heap.size (W.alloc o):=rfl
theorem cN {id st:Nat} {pend:Ex} {tm:List AV} {ps:List Nat} {as bd:aH} (h:ca H id=some (st,pend,tm,ps,as,bd)):H[id]? =some (.loop st pend tm ps as bd):=by
 unfold ca at h;split at h
 . rename_i h';cases h;exact h'
 . cases h
theorem fY {l:Nat} {r:Loop} (h:W.heap[l]? =some (.loop r)):(Instr.getLoop l).run P W= .ok r W:=by simp[Instr.getLoop,getObj,Sem.run,h]
theorem qP {cb:CB} (hcb:fD P cb) {rd ro:Option Nat} {id l:Nat} {f:FuncId} {caps:List AV} {fr1:Fr} {H1:ab} {V1:View} {W1:World} {a1:Act} {cs:Array Value} {r:Ex×Fr×ab} {Q:Exit->Act->World->Prop}
   (hg:bO w0 V V1) (hW:WR P w0 V1 H1 W1) (hl:V1.loc id=some (.blk l)) (hF:FrR V1 fr1 a1) (hcs:aj V1 caps cs.toList) (hrd:RdR V rd ro) (hQ:nt P w0 V r Q)
   (h:(match cb.ic f (.yld id::caps) H1 with
     | some (.ret _,H2)=>
       match ca H2 id with
       | some (st,pend,tm,ps',as',bd')=>
         if st=1|| !pend.jumps then none else some (pend,fr1,H2.set id (.loop 3 pend tm ps' as' bd'))
       |none=>none
     |_=>none)=some r):
   (callFunc f (#[.func (.yield l) #[] #[]]++cs)).run P W1= .ok (.enter f (#[.func (.yield l) #[] #[]]++cs)) W1∧
   CallsIn (Fk ro) 0 P f (#[.func (.yield l) #[] #[]]++cs) W1 (rangePost (Fk ro) 0 P l Q a1):=by
 split at h
 . rename_i v H2 hic;obtain⟨k1,k2⟩:=hcb.ic f _ H1 _ H2 hic w0 V1 W1 (#[.func (.yield l) #[] #[]]++cs) hW (by simpa using(aj.cons (.yld hl) hcs));refine⟨k1,da (k2.mono ?_)⟩
   rintro e W' ⟨V',g1,g2,g3⟩
   cases e with
   |panicked _=>exact g3.elim
   |outgrown=>exact g3.elim
   | returned u=>
     split at h
     . rename_i st pend tm ps' as' bd' hrl;split at h
       . cases h
       . rename_i hst;simp only[Bool.or_eq_true,decide_eq_true_eq,Bool.not_eq_true',not_or,Bool.not_eq_false]at hst;cases h;have hobj:=cN hrl;obtain⟨b,lr,hb,hge,hh,j1,j2,j3,j4,j5,j6⟩:=g2.obj id _ hobj;rw[g1.le.loc _ _ hl]at hb;cases hb
         have hnb:(lr.state==LoopState.busy)=false:=by
           rw[j1]
           match st,hst.1 with
           |0,_=>rfl
           |1,h=>exact absurd rfl h
           |2,_=>rfl
           |n+3,_=>rfl
         have hend:(Instr.endLoop l).run P W'= .ok lr.pending {W' with heap:=W'.heap.setIfInBounds l (.loop {lr with state:= .exhausted})}:=by
           simp only[Instr.endLoop,Sem.run_bind,fY hh,Result.andThen_ok,hnb];simp[setObj,Sem.run,hh]
         have hup:=g2.upd (o':= .loop 3 pend tm ps' as' bd') hobj rfl (by simp[aK,g1.le.loc _ _ hl]:aK V' id=some l) (cB W' l (.loop {lr with state:= .exhausted})) (fun p v hp=> ?_)
           (⟨l,{lr with state:= .exhausted},g1.le.loc _ _ hl,hge,gM hh _,rfl,j2,j3,j4,j5,j6⟩:mU P w0 V' _ id (.loop 3 pend tm ps' as' bd')) (fun _=>trivial)
         . have hfin:∀ex,ExR V' pend ex->Q ex a1 {W' with heap:=W'.heap.setIfInBounds l (.loop {lr with state:= .exhausted})}:=fun ex hex=>
             hQ V' a1 _ ex (hg.trans g1) hup (hF.mono g1.le) hex
           have key:∀W4,(∀ex,ExR V' pend ex->Q ex a1 W4)->(match lr.pending with
               |none=>Q .normal a1 W4
               |some c=>c.wpIn (Fk ro) 0 P Q a1 W4):=by
             intro W4 hfin;rw[j2]
             cases pend with
             |normal=>exact hfin .normal trivial
             |exit i=>exact wpIn_exit (hfin (.exit i) rfl)
             |goto i=>exact wpIn_goto (hfin (.goto i) rfl)
             |ret=>exact wpIn_ret (hfin .ret trivial)
             |panic c=>simp[Ex.jumps]at hst
           exact⟨lr.pending,_,hend,key _ hfin⟩
         . obtain⟨hc,_⟩:=g2.imm p v hp;refine(cB W' l _).cell hc (fun e=> ?_);simp only[Option.some.injEq]at e;unfold World.cell? at hc;rw[e,hh]at hc;cases hc
     . cases h
 . cases h
theorem gQ {cb:CB} (hcb:fD P cb) (rd:Option Nat):∀(c:Code) (ac:aH),bq P c=some ac->yj P rd c (aN cb rd ac):=by
 intro c
 induction c with
 | skip=>
   intro ac hc w0 ro V fr H a W r Q h hrd hF hW hQ
   cases hc;cases h;exact wpIn_skip (hQ V a W _ (.refl w0 V) hW hF trivial)
 | label l=>
   intro ac hc w0 ro V fr H a W r Q h hrd hF hW hQ
   cases hc;cases h;exact wpIn_label (hQ V a W _ (.refl w0 V) hW hF trivial)
 | exit id=>
   intro ac hc w0 ro V fr H a W r Q h hrd hF hW hQ
   cases hc;cases h;exact wpIn_exit (hQ V a W _ (.refl w0 V) hW hF rfl)
 | goto l=>
   intro ac hc w0 ro V fr H a W r Q h hrd hF hW hQ
   cases hc;cases h;exact wpIn_goto (hQ V a W _ (.refl w0 V) hW hF rfl)
 | ret=>
   intro ac hc w0 ro V fr H a W r Q h hrd hF hW hQ
   cases hc;cases h;exact wpIn_ret (hQ V a W _ (.refl w0 V) hW hF trivial)
 | refuse _=>
   intro ac hc;cases hc
 | region id ops d=>
   intro ac hc w0 ro V fr H a W r Q h hrd hF hW hQ;simp only[bq,Option.some.injEq]at hc
   cases hcr:fK P ops d with
   |none=>rw[hcr]at hc;subst hc;cases h
   |some ac'=>
   rw[hcr]at hc;simp only[Option.getD_some]at hc;subst hc;have hc:=hcr
   cases d with
   | true=>
     have hsh:=iL P hc;obtain⟨pre,tail,rfl⟩:=hsh;simp only[aN]at h;split at h
     . rename_i tm' e' h0;exact Hh hcb hc hrd hF hW h0 h hQ
     . cases h
   | false=>
     obtain⟨os,hos,rfl⟩:=gW P hc;simp only[aN]at h;exact wpIn_region_list (jO hcb ops.toList os V fr H a W hrd hos hF hW h hQ)
 | seq x y ihx ihy=>
   intro ac hc w0 ro V fr H a W r Q h hrd hF hW hQ;simp only[bq]at hc;split at hc
   . rename_i ax ay hx hy;cases hc;simp only[aN]at h;refine wpIn_seq ?_
     cases hr:aN cb rd ax fr H with
     |none=>rw[hr]at h;cases h
     | some q=>
       refine ihx ax hx w0 ro V fr H a W q _ hr hrd hF hW (fun V' a' W' ex g1 g2 g3 g4=> ?_);rw[hr]at h;obtain⟨e,fr',H'⟩:=q
       cases e with
       | normal=>
         simp only at h
         cases ex<;>try exact g4.elim
         exact ihy ay hy w0 ro V' fr' H' a' W' r Q h (hrd.mono g1.le) g3 g2 (hQ.mono g1)
       |goto i=>cases h;cases ex<;>first|exact hQ V' a' W' _ g1 g2 g3 g4|exact g4.elim
       |exit i=>cases h;cases ex<;>first|exact hQ V' a' W' _ g1 g2 g3 g4|exact g4.elim
       |ret=>cases h;cases ex<;>first|exact hQ V' a' W' _ g1 g2 g3 g4|exact g4.elim
       |panic ch=>cases h;cases ex<;>first|exact hQ V' a' W' _ g1 g2 g3 g4|exact g4.elim
   . cases hc
 | cond x y z ihy ihz=>
   intro ac hc w0 ro V fr H a W r Q h hrd hF hW hQ;simp only[bq]at hc;split at hc
   . rename_i ax ay az hx hy hz;cases hc;have hr:=aM hF.tm hx;simp only[aN]at h;split at h
     . rename_i he;rw[he]at hr;exact wpIn_cond_true (dq hr) (ihy ay hy w0 ro V fr H a W r Q h hrd hF hW hQ)
     . rename_i he;rw[he]at hr;exact wpIn_cond_false (dq hr) (ihz az hz w0 ro V fr H a W r Q h hrd hF hW hQ)
     . cases h
   . cases hc
 | block id x ihx=>
   intro ac hc w0 ro V fr H a W r Q h hrd hF hW hQ;simp only[bq]at hc;obtain⟨ax,hx,rfl⟩:=Option.map_eq_some_iff.1 hc;simp only[aN]at h;refine wpIn_block ?_
   cases hr:aN cb rd ax fr H with
   |none=>rw[hr]at h;cases h
   | some q=>
     refine ihx ax hx w0 ro V fr H a W q _ hr hrd hF hW (fun V' a' W' ex g1 g2 g3 g4=> ?_);rw[hr]at h;obtain⟨e,fr',H'⟩:=q
     cases e with
     | exit i=>
       simp only at h
       cases ex<;>try exact g4.elim
       rename_i j;cases g4;simp only[Exit.inBlock];by_cases hij:i=id
       . rw[if_pos hij]at h ⊢;cases h;exact hQ V' a' W' _ g1 g2 g3 trivial
       . rw[if_neg hij]at h ⊢;cases h;exact hQ V' a' W' _ g1 g2 g3 rfl
     |normal=>cases h;cases ex<;>first|exact hQ V' a' W' _ g1 g2 g3 g4|exact g4.elim
     |goto i=>cases h;cases ex<;>first|exact hQ V' a' W' _ g1 g2 g3 g4|exact g4.elim
     |ret=>cases h;cases ex<;>first|exact hQ V' a' W' _ g1 g2 g3 g4|exact g4.elim
     |panic ch=>cases h;cases ex<;>first|exact hQ V' a' W' _ g1 g2 g3 g4|exact g4.elim
 | loop x ihx=>
   intro ac hc w0 ro V fr H a W r Q h hrd hF hW hQ;simp only[bq]at hc;obtain⟨ax,hx,rfl⟩:=Option.map_eq_some_iff.1 hc;exact oh (Al hcb hx (ihx ax hx) w0 ro V fr H a W r Q h hrd hF hW hQ)
 | scope x ihx=>
   intro ac hc w0 ro V fr H a W r Q h hrd hF hW hQ;simp only[bq]at hc;obtain⟨ax,hx,rfl⟩:=Option.map_eq_some_iff.1 hc;exact mY (xP hcb hx (ihx ax hx) w0 ro V fr H a W r Q h hrd hF hW hQ)
 | rangeFunc g ps x y _ _=>
   intro ac hc w0 ro V fr H a W r Q h hrd hF hW hQ;simp only[bq]at hc;split at hc
   . rename_i ag ax ay hg hx hy;cases hc;have hrg:=aM hF.tm hg;simp only[aN]at h;refine wpIn_rangeFunc (fun fn _=> ?_)
     cases ro with
     | none=>
       have hrd0:rd=none:=by
         cases rd with
         |none=>rfl
         |some _=>exact hrd.elim
       subst hrd0;simp only at h;split at h
       . rename_i f caps he;rw[he]at hrg;generalize hgu:a.eval g=gu at hrg
         cases hrg with
         | fn hl hcc=>
           rename_i cs;obtain⟨g1,w1⟩:=hW.newObj (o:= .gA) (ob:= .deferred (some [])) ⟨W.heap.size,View.b8 _ _ _,hW.size,heap_alloc_new W _⟩
           have hlen:(H++[av.gA]).length=H.length+1:=by simp
           obtain⟨g2,w2⟩:=w1.newObj (o:= .loop 0 .normal fr.tm ps.toList ax ay) (ob:= .loop {state:= .ready,pending:=none,fn,tmps:=a.tmps,params:=ps,assign:=x,body:=y,defers:=W.heap.size})
             ⟨(W.alloc (.deferred (some []))).heap.size,_,View.b8 _ _ _,w1.size,heap_alloc_new _ _,rfl,rfl,(hF.tm.mono g1.le).mono (uM (o:= .deferred none) w1 (.blk (W.alloc (.deferred (some []))).heap.size)).le,rfl,hx,hy⟩
           rw[hlen]at g2 w2
           have e12:H++[av.gA]++[.loop 0 .normal fr.tm ps.toList ax ay]=H++[.gA,.loop 0 .normal fr.tm ps.toList ax ay]:=by simp
           rw[e12]at w2;have hloc0:V.loc H.length=none:=hW.fresh _ (Nat.le_refl _);have hmark:=g2.le.loc H.length _ (View.b8 V H.length (.blk W.heap.size))
           have hFr:FrR _ {fr with df:= .mark H.length::fr.df} {a with defers:=[{target:= .collected W.heap.size,args:= #[]}]++a.defers}:=
             ⟨hF.tm.mono (g1.trans g2).le,⟨⟨W.heap.size,rfl,hmark⟩,hF.df.mono (g1.trans g2).le⟩⟩
           obtain⟨k1,k2⟩:=qP (ro:=none) (rd:=none) (l:=(W.alloc (.deferred (some []))).heap.size) hcb (g1.trans g2) w2 (View.b8 _ _ _) hFr ((cY hl hcc).mono (g1.trans g2).le) hrd hQ h;refine⟨_,_,(W.alloc (.deferred (some []))).alloc (.loop {state:= .ready,pending:=none,fn,tmps:=a.tmps,params:=ps,assign:=x,body:=y,defers:=W.heap.size}),{target:= .fn (.func f) cs,args:= #[.func (.yield (W.alloc (.deferred (some []))).heap.size) #[] #[]]},_,f,_,_, ?_, ?_,fun _ _=>trivial,k1,by simp[Fk],k2⟩
           . show(Instr.enterLoop fn a.tmps ps x y none).run P W=_
             simp only[Instr.enterLoop,Sem.run_bind,qN,Result.andThen_ok,Sem.run_pure]
           . have ec:∀v,a.eval (.const v)=v:=fun _=>rfl
             simp[resolve,rangeCall,hgu,Deferred.ofValue,ec]
       . cases h
     | some l0=>
       cases rd with
       |none=>exact hrd.elim
       | some id0=>
         simp only at h
         cases hrl:ca H id0 with
         |none=>rw[hrl]at h;cases h
         | some q0=>
           rw[hrl]at h;simp only at h;split at h
           . rename_i f caps he;rw[he]at hrg;generalize hgu:a.eval g=gu at hrg
             cases hrg with
             | fn hl hcc=>
               rename_i cs;obtain⟨st0,pend0,tm0,ps0,as0,bd0⟩:=q0;obtain⟨b0,lr0,hb0,_,hh0,_⟩:=hW.obj id0 _ (cN hrl);have hrd1:V.loc id0=some (.blk l0):=hrd;rw[hrd1]at hb0;cases hb0
               obtain⟨g2,w2⟩:=hW.newObj (o:= .loop 0 .normal fr.tm ps.toList ax ay) (ob:= .loop {state:= .ready,pending:=none,fn,tmps:=a.tmps,params:=ps,assign:=x,body:=y,defers:=lr0.defers})
                 ⟨W.heap.size,_,View.b8 _ _ _,hW.size,heap_alloc_new _ _,rfl,rfl,hF.tm.mono (uM (o:= .deferred none) hW (.blk W.heap.size)).le,rfl,hx,hy⟩
               have hFr:FrR _ fr {a with defers:=[]++a.defers}:=hF.mono g2.le;obtain⟨k1,k2⟩:=qP (ro:=some l0) (rd:=some id0) (l:=W.heap.size) hcb g2 w2 (View.b8 _ _ _) hFr ((cY hl hcc).mono g2.le) hrd hQ h;refine⟨W.heap.size,[],W.alloc (.loop {state:= .ready,pending:=none,fn,tmps:=a.tmps,params:=ps,assign:=x,body:=y,defers:=lr0.defers}),{target:= .fn (.func f) cs,args:= #[.func (.yield W.heap.size) #[] #[]]},_,f,_,_, ?_, ?_,fun _ _=>trivial,k1,by simp[Fk],k2⟩
               . show(Instr.enterLoop fn a.tmps ps x y (some l0)).run P W=_
                 simp only[Instr.enterLoop,Sem.run_bind,qN,fY hh0,Result.andThen_ok,Sem.run_pure]
               . have ec:∀v,a.eval (.const v)=v:=fun _=>rfl
                 simp[resolve,rangeCall,hgu,Deferred.ofValue,ec]
           . cases h
   . cases hc
end Go.Am
