/- RANGES OVER FUNCTIONS: rules for a round and for the whole. No condition. -/
import Derived.Test.YtephfpdnhdpmkaaGreatDoorAmEnc
open Int (reduceEq)
open Nat (reduceEqDiff reduceAdd reduceMul reduceLT reduceLeDiff)
set_option linter.all false
namespace Go.Am
open Go
def oH (E:Env):List Nat->List AV->Env
 |p::ps,v::vs=>oH (upd E p v) ps vs
 |_,_=>E
theorem sH (E:Env):oH E [] []=E:=(rfl)
theorem qI (E:Env) (p:Nat) (ps:List Nat) (v:AV) (vs:List AV):oH E (p::ps) (v::vs)=oH (upd E p v) ps vs:=(rfl)
theorem Ag.ij {n:Nat}:∀{ps:List Nat} {vs:List AV} {tm:List AV} {E:Env},Ag n tm E->ps.all (fun p=>Nat.blt p n)=true->Ag n (ij tm ps vs) (oH E ps vs)
 |[],[],_,_,h,_=>h
 |[],_::_,_,_,h,_=>h
 |_::_,[],_,_,h,_=>h
 | p::ps,v::vs,tm,E,h,hp=>by
   simp only[List.all_cons,Bool.and_eq_true,Nat.blt_eq]at hp;show Ag n (Go.Am.ij (tm.set p v) ps vs) (oH (upd E p v) ps vs)
   exact Ag.ij (h.set hp.1 v) hp.2
def La (id:Nat) (P:Bool->ab->Prop):KP:=fun e _ df H=>
 df=[]/\∃st pend tm ps as bd,ca H id=some (st,pend,tm,ps,as,bd)∧
   match e with
   | .normal=>P true (H.set id (.loop 0 .normal tm ps as bd))
   | .ret=>P false (H.set id (.loop 2 .ret tm ps as bd))
   | .exit j=>P false (H.set id (.loop 2 (.exit j) tm ps as bd))
   | .goto j=>P false (H.set id (.loop 2 (.goto j) tm ps as bd))
   | .panic _=>False
def K4 (cb:CB) (id n:Nat) (bd:aH) (P:Bool->ab->Prop):KP:=fun e E df H=>
 e = .normal/\df=[]/\∃pend tm ps as bd',ca H id=some (0,pend,tm,ps,as,bd')∧
   Ret cb (some id) n (La id P) [.code bd] .normal E [] (H.set id (.loop 1 pend tm ps as bd'))
theorem Kz {tab:FuncId->Option an} {id n:Nat} {args:List AV} {H:ab} {pend:Ex} {tm:List AV} {ps:List Nat} {as bd:aH} {E:Env} {P:Bool->ab->Prop}
   (hl:ca H id=some (0,pend,tm,ps,as,bd)) (ha:Ag n tm E) (hlen:ps.length=args.length) (hps:ps.all (fun p=>Nat.blt p n)=true) (hf1:as.fits n=true) (hf2:bd.fits n=true) (hn1:as.iu=true) (hn2:bd.iu=true)
   (h:Ret (cbL tab) (some id) n (K4 (cbL tab) id n bd P) [.code as] .normal (oH E ps args) [] H):∃b H',(cbL tab).yl id args H=some (.ret (.bool b),H')/\P b H':=by
 obtain⟨e,fr,H1,h1,E1,h2,h3⟩:=nj as (Ret (cbL tab) (some id) n (K4 (cbL tab) id n bd P) []) _ [] H _ hf1 (.inr hn1) (ha.ij (vs:=args) hps) h;obtain⟨he,hdf,pend1,tm1,ps1,as1,bd1,hl1,h4⟩:K4 (cbL tab) id n bd P e E1 fr.df H1:=h3;subst he;obtain⟨e2,fr2,H2,k1,E2,k2,k3⟩:=nj bd (Ret (cbL tab) (some id) n (La id P) []) E1 [] _ fr.tm hf2 (.inr hn2) h2 h4;have k3:La id P e2 E2 fr2.df H2:=k3;obtain⟨hdf2,st,pend2,tm2,ps2,as2,bd2,hl2,k4⟩:=k3
 have hfr:fr=⟨fr.tm,[]⟩:=by cases fr;simp only at hdf;rw[hdf]
 have key:∀b H',ylA (cbL tab) id args H=some (.ret (.bool b),H')->P b H'->∃b H',(cbL tab).yl id args H=some (.ret (.bool b),H')/\P b H':=fun b H' hy hp=>⟨b,H',Kq hy,hp⟩
 unfold ylA at key;rw[hl]at key;simp only[hlen,if_true]at key;rw[h1]at key;simp only at key;rw[hl1]at key;simp only at key;rw[hfr,k1]at key;simp only at key;rw[hdf2,hl2]at key
 cases e2 with
 |normal=>exact key _ _ rfl k4
 |ret=>exact key _ _ rfl k4
 |exit j=>exact key _ _ rfl k4
 |goto j=>exact key _ _ rfl k4
 |panic c=>exact k4.elim
theorem sS {cb:CB} {n:Nat} {Q:KP} {ks:List Kt} {E:Env} {df:List ADf} {H:ab} {x:X} {ps:List Nat} {as bd:aH} {f:FuncId} {caps:List AV} (hx:x.evE E= .fn f caps)
   (h:∀tm,Ag n tm E->∃v H2 st pend tm' ps' as' bd',cb.ic f (.yld (H.length+1)::caps) (H++[.gA,.loop 0 .normal tm ps as bd])=some (.ret v,H2)/\ca H2 (H.length+1)=some (st,pend,tm',ps',as',bd')∧
     st≠1/\pend.jumps=true/\Ret cb none n Q ks pend E (.mark H.length::df) (H2.set (H.length+1) (.loop 3 pend tm' ps' as' bd'))):
   Ret cb none n Q (.code (.range x ps as bd)::ks) .normal E df H:=by
 show zp cb none n x ps as bd (Ret cb none n Q ks) E df H
 intro tm ha;obtain⟨v,H2,st,pend,tm',ps',as',bd',h1,h2,h3,h4,h5⟩:=h tm ha;simp only[hx];rw[h1];simp only;rw[h2];exact⟨h3,h4,h5⟩
theorem cW {H:ab} {id st:Nat} {pend:Ex} {tm:List AV} {ps:List Nat} {as bd:aH} (h:H[id]? =some (.loop st pend tm ps as bd)):ca H id=some (st,pend,tm,ps,as,bd):=by rw[ca,h]
def Marks (H:ab):List ADf->Prop
 |[]=>True
 | .mark k::r=>H[k]? =some .gA/\ADf.mark k∉r/\Marks H r
 | .call _ _::_=>False
theorem Marks.mono {H H':ab}:∀{ds:List ADf},Marks H ds->(∀k,.mark k∈ds->H[k]? =some .gA->H'[k]? =some .gA)->Marks H' ds
 |[],_,_=>trivial
 | .mark k::r,h,hk=>⟨hk k (List.mem_cons_self ..) h.1,h.2.1,h.2.2.mono fun j hj=>hk j (List.mem_cons_of_mem _ hj)⟩
 | .call _ _::_,h,_=>h.elim
end Go.Am
