/- THE LIMIT OF THE INTERPRETER: what it comes to with fuel enough; it answers to its own step. No condition. -/
import Derived.Test.YtephfpdnhdpmkaaGreatDoorAmDef
set_option linter.all false
namespace Go.Am
open Go
structure CB.Le (a b:CB):Prop where
 pc:∀f args r,a.pc f args=some r->b.pc f args=some r
 ic:∀f args H r,a.ic f args H=some r->b.ic f args H=some r
 yl:∀id args H r,a.yl id args H=some r->b.yl id args H=some r
 run:∀rd c fr H r,a.run rd c fr H=some r->b.run rd c fr H=some r
 cC:∀f,a.cC f=b.cC f
 sep:∀f args H r,a.ic f args H=some r->b.pc f args=none
section mono
variable {a b:CB} (h:CB.Le a b)
include h
theorem cz {f:FuncId} {args:List AV} {H:ab} {r:PR} (k:pcx a f args H=some r):pcx b f args H=some r:=by
 unfold pcx uF at*;rw[<-h.cC];split at k
 . rename_i hl;rw[if_pos hl];split at k
   . rename_i hv;rw[h.pc _ _ _ hv];exact k
   . rename_i hv;rw[h.pc _ _ _ hv];exact k
   . cases k
   . rename_i hv;rw[h.pc _ _ _ hv];exact k
   . rename_i hv;rw[h.pc _ _ _ hv];exact k
   . cases k
 . rename_i hl;rw[if_neg hl];exact h.pc _ _ _ k
theorem jI {f:FuncId} {args:List AV} {H:ab} {r:Out×ab} (k:dY a f args H=some r):dY b f args H=some r:=by
 unfold dY at*;split at k
 . rename_i hv;rw[cz h hv];exact k
 . rename_i hv;rw[cz h hv];exact k
 . rename_i hv;rw[cz h hv];exact k
 . rename_i hv;rw[cz h hv];exact k
 . cases k
 . split at k
   . cases k
   . rename_i hl
     have e:pcx b f args H=none:=by
       unfold pcx;rw[<-h.cC,if_neg hl];exact h.sep _ _ _ _ k
     rw[e];simp only;rw[<-h.cC,if_neg hl];exact h.ic _ _ _ _ k
theorem jQ {rw:Bool} {f:FuncId} {args:List AV} {H:ab} {r:Out×ab} (k:eL a rw f args H=some r):eL b rw f args H=some r:=by
 unfold eL at*;split at k
 . rename_i hv;rw[cz h hv];exact k
 . rename_i hv;rw[cz h hv];exact k
 . rename_i hv;rw[cz h hv];exact k
 . rename_i hv;rw[cz h hv];exact k
 . cases k
 . cases k
theorem eo {rd:Option Nat} {r:Ex×Fr×ab}:∀(ops:List ai) (fr:Fr) (H:ab),aV a rd ops fr H=some r->aV b rd ops fr H=some r:=by
 intro ops
 induction ops with
 |nil=>intro fr H k;exact k
 | cons o ops ih=>
   intro fr H k;rw[aV]at k ⊢;split at k
   . rename_i hw;rw[if_pos hw];split at k
     . exact ih _ _ k
     . split at k
       . exact ih _ _ k
       . exact ih _ _ k
       . split at k
         . rename_i hv;rw[jI h hv];exact ih _ _ k
         . rename_i hv;rw[jI h hv];exact k
         . cases k
       . split at k
         . rename_i hv;rw[jQ h hv];exact ih _ _ k
         . rename_i hv;rw[jQ h hv];exact k
         . cases k
       . split at k
         . rename_i hv;rw[h.yl _ _ _ _ hv];exact ih _ _ k
         . rename_i hv;rw[h.yl _ _ _ _ hv];exact k
         . cases k
       . exact k
       . split at k
         . cases k
         . rename_i hr;rw[if_neg hr];exact ih _ _ k
       . cases k
   . rename_i hw;rw[if_neg hw];exact ih _ _ k
theorem wH {o:ai} {tm:List AV} {H G:ab} {g:Nat} {v:AV×Option aj} (k:ap1 a H G o tm g=some v):ap1 b H G o tm g=some v:=by
 unfold ap1 at*;split at k
 . rename_i hw;rw[if_pos hw];split at k
   . exact k
   . split at k
     . exact k
     . exact k
     . split at k
       . rename_i hv;rw[cz h hv];exact k
       . rename_i hv;rw[cz h hv];exact k
       . rename_i hv;rw[cz h hv];exact k
       . cases k
     . split at k
       . split at k
         . rename_i hv;simp only[cz h hv];exact k
         . rename_i hv;simp only[cz h hv];exact k
         . rename_i hv;simp only[cz h hv];exact k
         . cases k
       . cases k
     . split at k
       . rename_i hv;rw[cz h hv];exact k
       . cases k
     . exact k
     . exact k
 . rename_i hw;rw[if_neg hw];exact k
theorem og {H:ab} {r:List AV×List aj}:∀(ops:List ai) (tm:List AV) (e:List aj),jv a H ops tm e=some r->jv b H ops tm e=some r:=by
 intro ops
 induction ops with
 |nil=>intro tm e k;exact k
 | cons o ops ih=>
   intro tm e k;rw[jv]at k ⊢;split at k
   . rename_i hv;rw[wH h hv];exact ih _ _ k
   . cases k
theorem bQ {rd:Option Nat}:∀(c:aD) (fr:Fr) (H:ab) (r:Ex×Fr×ab),aN a rd c fr H=some r->aN b rd c fr H=some r:=by
 intro c
 induction c with
 |region ops=>intro fr H r k;exact eo h _ _ _ k
 | drawn pre tail=>
   intro fr H r k;rw[aN]at k ⊢;split at k
   . rename_i hv;rw[og h _ _ _ hv];exact eo h _ _ _ k
   . cases k
 | seq x y ihx ihy=>
   intro fr H r k;rw[aN]at k ⊢;split at k
   . rename_i hv;rw[ihx _ _ _ hv];exact ihy _ _ _ k
   . rename_i hno;rw[ihx _ _ _ k];obtain⟨e,fr',H'⟩:=r
     cases e<;>first|rfl|exact absurd k (hno _ _)
 | cond x y z ihy ihz=>
   intro fr H r k;rw[aN]at k ⊢;split at k
   . exact ihy _ _ _ k
   . exact ihz _ _ _ k
   . cases k
 | block id x ih=>
   intro fr H r k;rw[aN]at k ⊢;split at k
   . rename_i hv;rw[ih _ _ _ hv];exact k
   . rename_i hno;rw[ih _ _ _ k];obtain⟨e,fr',H'⟩:=r
     cases e<;>first|rfl|exact absurd k (hno _ _ _)
 | loop x ih=>
   intro fr H r k;rw[aN]at k ⊢;split at k
   . rename_i hv;rw[ih _ _ _ hv];exact h.run _ _ _ _ _ k
   . rename_i hno;rw[ih _ _ _ k];obtain⟨e,fr',H'⟩:=r
     cases e<;>first|rfl|exact absurd k (hno _ _)
 | scope x ih=>
   intro fr H r k;rw[aN]at k ⊢;split at k
   . rename_i hv;rw[ih _ _ _ hv];simp only;split at k
     . exact h.run _ _ _ _ _ k
     . exact k
   . rename_i hno;rw[ih _ _ _ k];obtain⟨e,fr',H'⟩:=r
     cases e<;>first|rfl|exact absurd k (hno _ _ _)
 | b9 w x _ ih=>
   intro fr H r k;rw[aN]at k ⊢;split at k
   . rename_i hv;rw[ih _ _ _ hv];simp only;split at k
     . exact h.run _ _ _ _ _ k
     . exact k
   . rename_i hno;rw[ih _ _ _ k];obtain⟨e,fr',H'⟩:=r
     cases e<;>first|rfl|exact absurd k (hno _ _ _)
 | range x ps as bd _ _=>
   intro fr H r k;simp only[aN]at k ⊢;split at k
   . rename_i hv;split at k
     . split at k
       . rename_i hi;rw[h.ic _ _ _ _ hi];exact k
       . cases k
     . cases k
   . cases k
 |_=>intro fr H r k;exact k
theorem jO:∀(c:aD) (fr:Fr) (H:ab) (u:Mode) (r:Ex×Fr×ab×Mode),dm a c fr H u=some r->dm b c fr H u=some r:=by
 have plain:∀(c:aD) (fr:Fr) (H:ab) (u:Mode) (r:Ex×Fr×ab×Mode),(match aN a none c fr H with
     |some (e,fr',H')=>some (e,fr',H',u)
     |none=>none)=some r->(match aN b none c fr H with
     |some (e,fr',H')=>some (e,fr',H',u)
     |none=>none)=some r:=by
   intro c fr H u r k;split at k
   . rename_i hv;rw[bQ h _ _ _ _ hv];exact k
   . cases k
 have regD:∀(ops:List ai) (fr:Fr) (H:ab) (u:Mode),dp a ops fr H u=dp b ops fr H u:=by
   intro ops
   induction ops with
   |nil=>intros;rfl
   |cons o ops ih=>intro fr H u;simp only[dp,ih]
 intro c
 induction c with
 | region ops=>
   intro fr H u r k;rw[dm]at k ⊢;split at k
   . rename_i hr;rw[if_pos hr,<-regD];exact k
   . rename_i hr;rw[if_neg hr];exact plain _ _ _ _ _ k
 | seq x y ihx ihy=>
   intro fr H u r k;rw[dm]at k ⊢;split at k
   . rename_i hv;rw[ihx _ _ _ _ hv];exact ihy _ _ _ _ k
   . rename_i hno;rw[ihx _ _ _ _ k];obtain⟨e,fr',H',u'⟩:=r
     cases e<;>first|rfl|exact absurd k (hno _ _ _)
 | _=>
   intro fr H u r k;simp only[dm]at k ⊢;split at k
   . rename_i hv;rw[bQ h _ _ _ _ hv];exact k
   . cases k
theorem iT {fi:av} {args:List AV} {H:ab} {u:Mode} {r:Out×ab×Mode} (k:mQ a fi args H u=some r):mQ b fi args H u=some r:=by
 unfold mQ at*;split at k
 . rename_i hv;rw[jO h _ _ _ _ _ hv];exact k
 . cases k
theorem eU {t1 t2:FuncId->Option av} (hs:∀f fi,t1 f=some fi->t2 f=some fi) {r:Mode×ab}:∀(ds:List ADf) (u:Mode) (H:ab),b6 t1 a ds u H=some r->b6 t2 b ds u H=some r:=by
 intro ds
 induction ds with
 |nil=>intro u H k;exact k
 | cons d ds ih=>
   intro u H k
   cases d with
   | mark id=>
     rw[b6]at k ⊢;split at k
     . exact ih _ _ k
     . cases k
   | call f args=>
     rw[b6]at k ⊢;split at k
     . rename_i hf;rw[hs _ _ hf];simp only;split at k
       . rename_i hv;rw[iT h hv];exact ih _ _ k
       . rename_i hv;rw[iT h hv];exact ih _ _ k
       . cases k
     . cases k
theorem qF {t1 t2:FuncId->Option av} (hs:∀f fi,t1 f=some fi->t2 f=some fi) {fi:av} {args:List AV} {H:ab} {r:Out×ab} (k:gx t1 a fi args H=some r):gx t2 b fi args H=some r:=by
 unfold gx at*;split at k
 . rename_i hv;rw[bQ h _ _ _ _ hv];simp only;split at k
   . split at k
     . rename_i hl;rw[eU h hs _ _ _ hl];exact k
     . rename_i hl;rw[eU h hs _ _ _ hl];exact k
     . cases k
   . cases k
 . cases k
theorem yj {t1 t2:FuncId->Option av} (hs:∀f fi,t1 f=some fi->t2 f=some fi) {f:FuncId} {args:List AV} {r:PR} (k:pcA t1 a f args=some r):pcA t2 b f args=some r:=by
 unfold pcA at*;split at k
 . rename_i hf;rw[hs _ _ hf];simp only;split at k
   . exact k
   split at k
   . rename_i hc;rw[if_pos hc]
     cases hb:gx t1 a _ (args.map aE) [] with
     |none=>rw[hb,sO]at k;cases k
     |some q=>rw[hb]at k;rw[qF h hs hb];exact k
   . cases k
 . cases k
theorem vK {t1 t2:FuncId->Option av} (hs:∀f fi,t1 f=some fi->t2 f=some fi) {f:FuncId} {args:List AV} {H:ab} {r:Out×ab} (k:icA t1 a f args H=some r):icA t2 b f args H=some r:=by
 unfold icA at*;split at k
 . rename_i hf;rw[hs _ _ hf];simp only;split at k
   . cases k
   . rename_i hc;rw[if_neg hc];split at k
     . exact k
     . exact qF h hs k
 . cases k
theorem yq {id:Nat} {args:List AV} {H:ab} {r:Out×ab} (k:ylA a id args H=some r):ylA b id args H=some r:=by
 unfold ylA at*;split at k
 . split at k
   . rename_i hl;rw[if_pos hl];split at k
     . rename_i hv;rw[bQ h _ _ _ _ hv];simp only;split at k
       . split at k
         . rename_i hv2;rw[bQ h _ _ _ _ hv2];exact k
         . cases k
       . cases k
     . cases k
   . cases k
 . cases k
theorem wc {t1 t2:FuncId->Option av} (hs:∀f fi,t1 f=some fi->t2 f=some fi) (hl:∀f,hZ t1 f=hZ t2 f):CB.Le (tl t1 a) (tl t2 b):=
 ⟨fun _ _ _=>yj h hs,fun _ _ _ _=>vK h hs,fun _ _ _ _=>yq h,fun _ _ _ _ _=>bQ h _ _ _ _,hl,fun f args H r k=>by
   have k:icA t1 a f args H=some r:=k;show pcA t2 b f args=none
   unfold icA at k;unfold pcA;split at k
   . rename_i fi hf;rw[hs _ _ hf];simp only;split at k
     . cases k
     . rename_i hp
       cases hcn:fi.con with
       |none=>rw[hcn]at hp;simp only[Option.isSome_none,Bool.false_or,Bool.not_eq_true]at hp;simp[hp,hcn]
       |some g=>rw[hcn]at hp;simp at hp
   . cases k⟩
theorem B9 (tab:FuncId->Option av):CB.Le (tl tab a) (tl tab b):=wc h (fun _ _ h=>h) fun _=>rfl
end mono
theorem bD (tab:FuncId->Option av):∀{n m:Nat},n<=m->CB.Le (cbs tab n) (cbs tab m)
 |0,0,_=>⟨fun _ _ _ h=>h,fun _ _ _ _ h=>h,fun _ _ _ _ h=>h,fun _ _ _ _ _ h=>h,fun _=>rfl,fun _ _ _ _ h=>(by cases h)⟩
 |0,m+1,_=>⟨fun _ _ _ h=>(by cases h),fun _ _ _ _ h=>(by cases h),fun _ _ _ _ h=>(by cases h),fun _ _ _ _ _ h=>(by cases h),fun f=>(by first|rfl|(cases ‹Nat› <;>rfl)),fun _ _ _ _ h=>(by cases h)⟩
 |n+1,0,h=>absurd h (by omega)
 |n+1,m+1,h=>B9 (bD tab (by omega)) tab
open Classical in
noncomputable def lim {α:Type} (f:Nat->Option α):Option α:=if h:∃n r,f n=some r then f h.choose else none
theorem l9 {α:Type} {f:Nat->Option α} (hm:∀n m r,n<=m->f n=some r->f m=some r) {r:α}:lim f=some r↔∃n,f n=some r:=by
 unfold lim;constructor
 . intro h;split at h
   . exact⟨_,h⟩
   . cases h
 . rintro ⟨n,hn⟩
   have h:∃n r,f n=some r:=⟨n,r,hn⟩;rw[dif_pos h];obtain⟨r',hr'⟩:=h.choose_spec;have h1:=hm _ (max n h.choose) _ (Nat.le_max_right _ _) hr';have h2:=hm _ (max n h.choose) _ (Nat.le_max_left _ _) hn;rw[h1]at h2;rw[hr',h2]
noncomputable def cbL (tab:FuncId->Option av):CB:=
 ⟨fun f args=>lim fun n=>(cbs tab n).pc f args,fun f args H=>lim fun n=>(cbs tab n).ic f args H,fun id args H=>lim fun n=>(cbs tab n).yl id args H,fun rd c fr H=>lim fun n=>(cbs tab n).run rd c fr H,hZ tab⟩
section limit
variable {tab:FuncId->Option av}
theorem dL {f:FuncId} {args:List AV} {r:PR}:(cbL tab).pc f args=some r↔∃n,(cbs tab n).pc f args=some r:=l9 fun _ _ _ h=>(bD tab h).pc _ _ _
theorem ik {f:FuncId} {args:List AV} {H:ab} {r:Out×ab}:(cbL tab).ic f args H=some r↔∃n,(cbs tab n).ic f args H=some r:=l9 fun _ _ _ h=>(bD tab h).ic _ _ _ _
theorem lP {id:Nat} {args:List AV} {H:ab} {r:Out×ab}:(cbL tab).yl id args H=some r↔∃n,(cbs tab n).yl id args H=some r:=l9 fun _ _ _ h=>(bD tab h).yl _ _ _ _
theorem gB {rd:Option Nat} {c:aD} {fr:Fr} {H:ab} {r:Ex×Fr×ab}:(cbL tab).run rd c fr H=some r↔∃n,(cbs tab n).run rd c fr H=some r:=l9 fun _ _ _ h=>(bD tab h).run _ _ _ _ _
theorem eF (n:Nat) (f:FuncId):(cbs tab n).cC f=(cbL tab).cC f:=by cases n<;>rfl
theorem rE (n:Nat):CB.Le (cbs tab n) (cbL tab):=
 ⟨fun _ _ _ h=>dL.2 ⟨n,h⟩,fun _ _ _ _ h=>ik.2 ⟨n,h⟩,fun _ _ _ _ h=>lP.2 ⟨n,h⟩,fun _ _ _ _ _ h=>gB.2 ⟨n,h⟩,eF n,fun f args H r h=>by
   cases hp:(cbL tab).pc f args with
   |none=>rfl
   | some q=>
     obtain⟨m,hm⟩:=dL.1 hp;have h1:=(bD tab (Nat.le_max_left n m)).sep f args H r h;have h2:=(bD tab (Nat.le_max_right n m)).pc _ _ _ hm;rw[h1]at h2
     cases h2⟩
theorem j7 {t1 t2:FuncId->Option av} (hs:∀f fi,t1 f=some fi->t2 f=some fi) (hl:∀f,hZ t1 f=hZ t2 f):∀n,CB.Le (cbs t1 n) (cbs t2 n)
 |0=>⟨fun _ _ _ h=>(by cases h),fun _ _ _ _ h=>(by cases h),fun _ _ _ _ h=>(by cases h),fun _ _ _ _ _ h=>(by cases h),hl,fun _ _ _ _ h=>(by cases h)⟩
 |n+1=>wc (j7 hs hl n) hs hl
theorem Jc {t1 t2:FuncId->Option av} (hs:∀f fi,t1 f=some fi->t2 f=some fi) (hl:∀f,hZ t1 f=hZ t2 f):CB.Le (cbL t1) (cbL t2):=
 ⟨fun _ _ _ h=>by obtain⟨n,k⟩:=dL.1 h;exact dL.2 ⟨n,(j7 hs hl n).pc _ _ _ k⟩,
  fun _ _ _ _ h=>by obtain⟨n,k⟩:=ik.1 h;exact ik.2 ⟨n,(j7 hs hl n).ic _ _ _ _ k⟩,
  fun _ _ _ _ h=>by obtain⟨n,k⟩:=lP.1 h;exact lP.2 ⟨n,(j7 hs hl n).yl _ _ _ _ k⟩,
  fun _ _ _ _ _ h=>by obtain⟨n,k⟩:=gB.1 h;exact gB.2 ⟨n,(j7 hs hl n).run _ _ _ _ _ k⟩,hl,fun f args H r h=>by
   obtain⟨n,k⟩:=ik.1 h
   exact(rE n).sep f args H r ((j7 hs hl n).ic _ _ _ _ k)⟩
theorem dB {f:FuncId} {args:List AV} {H:ab} {r:PR} (k:pcx (cbL tab) f args H=some r):∃n,pcx (cbs tab n) f args H=some r:=by
 unfold pcx uF at*;split at k
 . rename_i hl;split at k
   . rename_i hv;obtain⟨n,hn⟩:=dL.1 hv;exact⟨n,by rw[eF,if_pos hl,hn];exact k⟩
   . rename_i hv;obtain⟨n,hn⟩:=dL.1 hv;exact⟨n,by rw[eF,if_pos hl,hn];exact k⟩
   . cases k
   . rename_i hv;obtain⟨n,hn⟩:=dL.1 hv;exact⟨n,by rw[eF,if_pos hl,hn];exact k⟩
   . rename_i hv;obtain⟨n,hn⟩:=dL.1 hv;exact⟨n,by rw[eF,if_pos hl,hn];exact k⟩
   . cases k
 . rename_i hl;obtain⟨n,hn⟩:=dL.1 k;exact⟨n,by rw[eF,if_neg hl];exact hn⟩
theorem qR {f:FuncId} {args:List AV} {H:ab} {r:Out×ab} (k:dY (cbL tab) f args H=some r):∃n,dY (cbs tab n) f args H=some r:=by
 unfold dY at*;split at k
 . rename_i hv;obtain⟨n,hn⟩:=dB hv;exact⟨n,by rw[hn];exact k⟩
 . rename_i hv;obtain⟨n,hn⟩:=dB hv;exact⟨n,by rw[hn];exact k⟩
 . rename_i hv;obtain⟨n,hn⟩:=dB hv;exact⟨n,by rw[hn];exact k⟩
 . rename_i hv;obtain⟨n,hn⟩:=dB hv;exact⟨n,by rw[hn];exact k⟩
 . cases k
 . split at k
   . cases k
   . rename_i hl;obtain⟨n,hn⟩:=ik.1 k;refine⟨n, ?_⟩
     have e:pcx (cbs tab n) f args H=none:=by
       unfold pcx;rw[eF,if_neg hl];exact(bD tab (Nat.le_refl n)).sep _ _ _ _ hn
     rw[e];simp only;rw[eF,if_neg hl];exact hn
theorem rj {rw:Bool} {f:FuncId} {args:List AV} {H:ab} {r:Out×ab} (k:eL (cbL tab) rw f args H=some r):∃n,eL (cbs tab n) rw f args H=some r:=by
 unfold eL at*;split at k
 . rename_i hv;obtain⟨n,hn⟩:=dB hv;exact⟨n,by rw[hn];exact k⟩
 . rename_i hv;obtain⟨n,hn⟩:=dB hv;exact⟨n,by rw[hn];exact k⟩
 . rename_i hv;obtain⟨n,hn⟩:=dB hv;exact⟨n,by rw[hn];exact k⟩
 . rename_i hv;obtain⟨n,hn⟩:=dB hv;exact⟨n,by rw[hn];exact k⟩
 . cases k
 . cases k
theorem oH {rd:Option Nat} {r:Ex×Fr×ab}:∀(ops:List ai) (fr:Fr) (H:ab),aV (cbL tab) rd ops fr H=some r->∃n,aV (cbs tab n) rd ops fr H=some r:=by
 intro ops
 induction ops with
 |nil=>intro fr H k;exact⟨0,k⟩
 | cons o ops ih=>
   intro fr H k;rw[aV]at k;simp only[aV];split at k
   . rename_i hw
     (try simp only[if_pos hw])
     split at k
     . rename_i hv;(try simp only[hv]);exact ih _ _ k
     . rename_i hv
       (try simp only[hv])
       split at k
       . rename_i hc;(try simp only[hc]);exact ih _ _ k
       . rename_i hc;(try simp only[hc]);exact ih _ _ k
       . rename_i hc
         (try simp only[hc])
         split at k
         . rename_i he;obtain⟨n,hn⟩:=qR he;obtain⟨m,hm⟩:=ih _ _ k;refine⟨max n m, ?_⟩;rw[jI (bD tab (Nat.le_max_left n m)) hn];exact eo (bD tab (Nat.le_max_right n m)) _ _ _ hm
         . rename_i he;obtain⟨n,hn⟩:=qR he;exact⟨n,by rw[hn];exact k⟩
         . cases k
       . rename_i hc
         (try simp only[hc])
         split at k
         . rename_i he;obtain⟨n,hn⟩:=rj he;obtain⟨m,hm⟩:=ih _ _ k;refine⟨max n m, ?_⟩;rw[jQ (bD tab (Nat.le_max_left n m)) hn];exact eo (bD tab (Nat.le_max_right n m)) _ _ _ hm
         . rename_i he;obtain⟨n,hn⟩:=rj he;exact⟨n,by rw[hn];exact k⟩
         . cases k
       . rename_i hc
         (try simp only[hc])
         split at k
         . rename_i he;obtain⟨n,hn⟩:=lP.1 he;obtain⟨m,hm⟩:=ih _ _ k;refine⟨max n m, ?_⟩;rw[(bD tab (Nat.le_max_left n m)).yl _ _ _ _ hn];exact eo (bD tab (Nat.le_max_right n m)) _ _ _ hm
         . rename_i he;obtain⟨n,hn⟩:=lP.1 he;exact⟨n,by rw[hn];exact k⟩
         . cases k
       . rename_i hc;(try simp only[hc]);exact⟨0,k⟩
       . rename_i hc
         (try simp only[hc])
         split at k
         . cases k
         . rename_i hr;(try simp only[if_neg hr]);exact ih _ _ k
       . cases k
   . rename_i hw
     (try simp only[if_neg hw])
     exact ih _ _ k
theorem Ju {o:ai} {tm:List AV} {H G:ab} {g:Nat} {v:AV×Option aj} (k:ap1 (cbL tab) H G o tm g=some v):∃n,ap1 (cbs tab n) H G o tm g=some v:=by
 unfold ap1 at*;split at k
 . rename_i hw
   (try simp only[if_pos hw])
   split at k
   . rename_i hv;(try simp only[hv]);exact⟨0,k⟩
   . rename_i hv
     (try simp only[hv])
     split at k
     . rename_i ho;(try simp only[ho]);exact⟨0,k⟩
     . rename_i ho;(try simp only[ho]);exact⟨0,k⟩
     . rename_i ho
       (try simp only[ho])
       split at k
       . rename_i hp;obtain⟨n,hn⟩:=dB hp;exact⟨n,by rw[hn];exact k⟩
       . rename_i hp;obtain⟨n,hn⟩:=dB hp;exact⟨n,by rw[hn];exact k⟩
       . rename_i hp;obtain⟨n,hn⟩:=dB hp;exact⟨n,by rw[hn];exact k⟩
       . cases k
     . rename_i ho
       (try simp only[ho])
       split at k
       . rename_i hcal
         (try simp only[hcal])
         split at k
         . rename_i hp;obtain⟨n,hn⟩:=dB hp;exact⟨n,by(try simp only[hcal,hn]);exact k⟩
         . rename_i hp;obtain⟨n,hn⟩:=dB hp;exact⟨n,by(try simp only[hcal,hn]);exact k⟩
         . rename_i hp;obtain⟨n,hn⟩:=dB hp;exact⟨n,by(try simp only[hcal,hn]);exact k⟩
         . cases k
       . cases k
     . rename_i ho
       (try simp only[ho])
       split at k
       . rename_i hp;obtain⟨n,hn⟩:=dB hp;exact⟨n,by rw[hn];exact k⟩
       . cases k
     . rename_i ho;(try simp only[ho]);exact⟨0,k⟩
     . exact⟨0,k⟩
 . rename_i hw
   (try simp only[if_neg hw])
   exact⟨0,k⟩
theorem Gy {H:ab} {r:List AV×List aj}:∀(ops:List ai) (tm:List AV) (e:List aj),jv (cbL tab) H ops tm e=some r->∃n,jv (cbs tab n) H ops tm e=some r:=by
 intro ops
 induction ops with
 |nil=>intro tm e k;exact⟨0,k⟩
 | cons o ops ih=>
   intro tm e k;rw[jv]at k;split at k
   . rename_i hv;obtain⟨n,hn⟩:=Ju hv;obtain⟨m,hm⟩:=ih _ _ k;refine⟨max n m, ?_⟩;rw[jv,wH (bD tab (Nat.le_max_left n m)) hn];exact og (bD tab (Nat.le_max_right n m)) _ _ _ hm
   . cases k
theorem gI {rd:Option Nat}:∀(c:aD) (fr:Fr) (H:ab) (r:Ex×Fr×ab),aN (cbL tab) rd c fr H=some r->∃n,aN (cbs tab n) rd c fr H=some r:=by
 intro c
 induction c with
 |region ops=>intro fr H r k;exact oH _ _ _ k
 | drawn pre tail=>
   intro fr H r k;rw[aN]at k;split at k
   . rename_i hv;obtain⟨n,hn⟩:=Gy _ _ _ hv;obtain⟨m,hm⟩:=oH _ _ _ k;refine⟨max n m, ?_⟩;rw[aN,og (bD tab (Nat.le_max_left n m)) _ _ _ hn];exact eo (bD tab (Nat.le_max_right n m)) _ _ _ hm
   . cases k
 | seq x y ihx ihy=>
   intro fr H r k;rw[aN]at k;split at k
   . rename_i hv;obtain⟨n,hn⟩:=ihx _ _ _ hv;obtain⟨m,hm⟩:=ihy _ _ _ k;refine⟨max n m, ?_⟩;rw[aN,bQ (bD tab (Nat.le_max_left n m)) _ _ _ _ hn];exact bQ (bD tab (Nat.le_max_right n m)) _ _ _ _ hm
   . rename_i hno;obtain⟨n,hn⟩:=ihx _ _ _ k;refine⟨n, ?_⟩;rw[aN,hn];obtain⟨e,fr',H'⟩:=r
     cases e<;>first|rfl|exact absurd k (hno _ _)
 | cond x y z ihy ihz=>
   intro fr H r k;rw[aN]at k;simp only[aN];split at k
   . rename_i he;(try simp only[he]);exact ihy _ _ _ k
   . rename_i he;(try simp only[he]);exact ihz _ _ _ k
   . cases k
 | block id x ih=>
   intro fr H r k;rw[aN]at k;split at k
   . rename_i hv;obtain⟨n,hn⟩:=ih _ _ _ hv;exact⟨n,by rw[aN,hn];exact k⟩
   . rename_i hno;obtain⟨n,hn⟩:=ih _ _ _ k;refine⟨n, ?_⟩;rw[aN,hn];obtain⟨e,fr',H'⟩:=r
     cases e<;>first|rfl|exact absurd k (hno _ _ _)
 | loop x ih=>
   intro fr H r k;rw[aN]at k;split at k
   . rename_i hv;obtain⟨n,hn⟩:=ih _ _ _ hv;obtain⟨m,hm⟩:=gB.1 k;refine⟨max n m, ?_⟩;rw[aN,bQ (bD tab (Nat.le_max_left n m)) _ _ _ _ hn];exact(bD tab (Nat.le_max_right n m)).run _ _ _ _ _ hm
   . rename_i hno;obtain⟨n,hn⟩:=ih _ _ _ k;refine⟨n, ?_⟩;rw[aN,hn];obtain⟨e,fr',H'⟩:=r
     cases e<;>first|rfl|exact absurd k (hno _ _)
 | scope x ih=>
   intro fr H r k;rw[aN]at k;split at k
   . rename_i hv;obtain⟨n,hn⟩:=ih _ _ _ hv;split at k
     . rename_i hf;obtain⟨m,hm⟩:=gB.1 k;refine⟨max n m, ?_⟩;rw[aN,bQ (bD tab (Nat.le_max_left n m)) _ _ _ _ hn]
       (try simp only[hf])
       exact(bD tab (Nat.le_max_right n m)).run _ _ _ _ _ hm
     . rename_i hf;refine⟨n, ?_⟩;rw[aN,hn]
       (try simp only[hf])
       exact k
   . rename_i hno;obtain⟨n,hn⟩:=ih _ _ _ k;refine⟨n, ?_⟩;rw[aN,hn];obtain⟨e,fr',H'⟩:=r
     cases e<;>first|rfl|exact absurd k (hno _ _ _)
 | b9 w x _ ih=>
   intro fr H r k;rw[aN]at k;split at k
   . rename_i hv;obtain⟨n,hn⟩:=ih _ _ _ hv;split at k
     . rename_i hf;obtain⟨m,hm⟩:=gB.1 k;refine⟨max n m, ?_⟩;rw[aN,bQ (bD tab (Nat.le_max_left n m)) _ _ _ _ hn]
       (try simp only[hf])
       exact(bD tab (Nat.le_max_right n m)).run _ _ _ _ _ hm
     . rename_i hf;refine⟨n, ?_⟩;rw[aN,hn]
       (try simp only[hf])
       exact k
   . rename_i hno;obtain⟨n,hn⟩:=ih _ _ _ k;refine⟨n, ?_⟩;rw[aN,hn];obtain⟨e,fr',H'⟩:=r
     cases e<;>first|rfl|exact absurd k (hno _ _ _)
 | range x ps as bd _ _=>
   intro fr H r k;simp only[aN]at k ⊢;split at k
   . rename_i hv
     (try simp only[hv])
     split at k
     . rename_i hx
       (try simp only[hx])
       split at k
       . rename_i hi;obtain⟨n,hn⟩:=ik.1 hi;exact⟨n,by rw[hn];exact k⟩
       . cases k
     . cases k
   . cases k
 |_=>intro fr H r k;exact⟨0,k⟩
theorem zx:∀(c:aD) (fr:Fr) (H:ab) (u:Mode) (r:Ex×Fr×ab×Mode),dm (cbL tab) c fr H u=some r->∃n,dm (cbs tab n) c fr H u=some r:=by
 have plain:∀(c:aD) (fr:Fr) (H:ab) (u:Mode) (r:Ex×Fr×ab×Mode),(match aN (cbL tab) none c fr H with
     |some (e,fr',H')=>some (e,fr',H',u)
     |none=>none)=some r->∃n,(match aN (cbs tab n) none c fr H with
     |some (e,fr',H')=>some (e,fr',H',u)
     |none=>none)=some r:=by
   intro c fr H u r k;split at k
   . rename_i hv;obtain⟨n,hn⟩:=gI _ _ _ _ hv;exact⟨n,by rw[hn];exact k⟩
   . cases k
 have regD:∀(a b:CB) (ops:List ai) (fr:Fr) (H:ab) (u:Mode),dp a ops fr H u=dp b ops fr H u:=by
   intro a b ops
   induction ops with
   |nil=>intros;rfl
   |cons o ops ih=>intro fr H u;simp only[dp,ih]
 intro c
 induction c with
 | region ops=>
   intro fr H u r k;rw[dm]at k;simp only[dm];split at k
   . rename_i hr;(try simp only[if_pos hr]);exact⟨0,by rw[regD _ (cbL tab)];exact k⟩
   . rename_i hr;(try simp only[if_neg hr]);exact plain _ _ _ _ _ k
 | seq x y ihx ihy=>
   intro fr H u r k;rw[dm]at k;split at k
   . rename_i hv;obtain⟨n,hn⟩:=ihx _ _ _ _ hv;obtain⟨m,hm⟩:=ihy _ _ _ _ k;refine⟨max n m, ?_⟩;rw[dm,jO (bD tab (Nat.le_max_left n m)) _ _ _ _ _ hn];exact jO (bD tab (Nat.le_max_right n m)) _ _ _ _ _ hm
   . rename_i hno;obtain⟨n,hn⟩:=ihx _ _ _ _ k;refine⟨n, ?_⟩;rw[dm,hn];obtain⟨e,fr',H',u'⟩:=r
     cases e<;>first|rfl|exact absurd k (hno _ _ _)
 | _=>
   intro fr H u r k;simp only[dm]at k ⊢;split at k
   . rename_i hv;obtain⟨n,hn⟩:=gI _ _ _ _ hv;exact⟨n,by rw[hn];exact k⟩
   . cases k
theorem s9 {fi:av} {args:List AV} {H:ab} {u:Mode} {r:Out×ab×Mode} (k:mQ (cbL tab) fi args H u=some r):∃n,mQ (cbs tab n) fi args H u=some r:=by
 unfold mQ at*;split at k
 . rename_i hv;obtain⟨n,hn⟩:=zx _ _ _ _ _ hv;exact⟨n,by rw[hn];exact k⟩
 . cases k
theorem rK {r:Mode×ab}:∀(ds:List ADf) (u:Mode) (H:ab),b6 tab (cbL tab) ds u H=some r->∃n,b6 tab (cbs tab n) ds u H=some r:=by
 intro ds
 induction ds with
 |nil=>intro u H k;exact⟨0,k⟩
 | cons d ds ih=>
   intro u H k
   cases d with
   | mark id=>
     rw[b6]at k;simp only[b6];split at k
     . rename_i ho;(try simp only[ho]);exact ih _ _ k
     . cases k
   | call f args=>
     rw[b6]at k;simp only[b6];split at k
     . rename_i hf
       (try simp only[hf])
       split at k
       . rename_i hv;obtain⟨n,hn⟩:=s9 hv;obtain⟨m,hm⟩:=ih _ _ k;refine⟨max n m, ?_⟩;rw[iT (bD tab (Nat.le_max_left n m)) hn];exact eU (bD tab (Nat.le_max_right n m)) (fun _ _ h=>h) _ _ _ hm
       . rename_i hv;obtain⟨n,hn⟩:=s9 hv;obtain⟨m,hm⟩:=ih _ _ k;refine⟨max n m, ?_⟩;rw[iT (bD tab (Nat.le_max_left n m)) hn];exact eU (bD tab (Nat.le_max_right n m)) (fun _ _ h=>h) _ _ _ hm
       . cases k
     . cases k
theorem sH {fi:av} {args:List AV} {H:ab} {r:Out×ab} (k:gx tab (cbL tab) fi args H=some r):∃n,gx tab (cbs tab n) fi args H=some r:=by
 unfold gx at*;split at k
 . rename_i hv;obtain⟨n,hn⟩:=gI _ _ _ _ hv;split at k
   . rename_i hu;split at k
     . rename_i hl;obtain⟨m,hm⟩:=rK _ _ _ hl;refine⟨max n m, ?_⟩;rw[bQ (bD tab (Nat.le_max_left n m)) _ _ _ _ hn]
       (try simp only[hu])
       rw[eU (bD tab (Nat.le_max_right n m)) (fun _ _ h=>h) _ _ _ hm];exact k
     . rename_i hl;obtain⟨m,hm⟩:=rK _ _ _ hl;refine⟨max n m, ?_⟩;rw[bQ (bD tab (Nat.le_max_left n m)) _ _ _ _ hn]
       (try simp only[hu])
       rw[eU (bD tab (Nat.le_max_right n m)) (fun _ _ h=>h) _ _ _ hm];exact k
     . cases k
   . cases k
 . cases k
theorem se {f:FuncId} {args:List AV} {r:PR} (k:pcA tab (cbL tab) f args=some r):(cbL tab).pc f args=some r:=by
 unfold pcA at k;split at k
 . rename_i fi hf;split at k
   . rename_i g hg;refine dL.2 ⟨1, ?_⟩;show pcA tab (cbs tab 0) f args=some r
     unfold pcA;rw[hf];simp only[hg];exact k
   rename_i hg;split at k
   . rename_i hc
     cases hb:gx tab (cbL tab) fi (args.map aE) [] with
     |none=>rw[hb,sO]at k;cases k
     | some q=>
       obtain⟨n,hn⟩:=sH hb;refine dL.2 ⟨n+1, ?_⟩;show pcA tab (cbs tab n) f args=some r
       unfold pcA;rw[hf];simp only[hg,hc,if_true];rw[hn,<-hb];exact k
   . cases k
 . cases k
theorem HE {f:FuncId} {args:List AV} {H:ab} {r:Out×ab} (k:icA tab (cbL tab) f args H=some r):(cbL tab).ic f args H=some r:=by
 unfold icA at k;split at k
 . rename_i fi hf;split at k
   . cases k
   . rename_i hc;split at k
     . rename_i hg;refine ik.2 ⟨1, ?_⟩;show icA tab (cbs tab 0) f args H=some r
       unfold icA;rw[hf];simp only[hc,if_neg,Bool.false_eq_true,not_false_eq_true];rw[hg];exact k
     . rename_i hg;obtain⟨n,hn⟩:=sH k;refine ik.2 ⟨n+1, ?_⟩;show icA tab (cbs tab n) f args H=some r
       unfold icA;rw[hf];simp only[hc,if_neg,Bool.false_eq_true,not_false_eq_true];rw[hg];exact hn
 . cases k
theorem Lx {id:Nat} {args:List AV} {H:ab} {r:Out×ab} (k:ylA (cbL tab) id args H=some r):(cbL tab).yl id args H=some r:=by
 have:∃n,ylA (cbs tab n) id args H=some r:=by
   unfold ylA at k;split at k
   . rename_i hl0;split at k
     . rename_i hl;split at k
       . rename_i hv;obtain⟨n,hn⟩:=gI _ _ _ _ hv;split at k
         . rename_i hl2;split at k
           . rename_i hv2;obtain⟨m,hm⟩:=gI _ _ _ _ hv2;refine⟨max n m, ?_⟩;unfold ylA;rw[hl0];simp only[hl,if_true];rw[bQ (bD tab (Nat.le_max_left n m)) _ _ _ _ hn]
             (try simp only[hl2])
             rw[bQ (bD tab (Nat.le_max_right n m)) _ _ _ _ hm];exact k
           . cases k
         . cases k
       . cases k
     . cases k
   . cases k
 obtain⟨n,hn⟩:=this;exact lP.2 ⟨n+1,hn⟩
theorem DA {rd:Option Nat} {c:aD} {fr:Fr} {H:ab} {r:Ex×Fr×ab} (k:aN (cbL tab) rd c fr H=some r):(cbL tab).run rd c fr H=some r:=by
 obtain⟨n,hn⟩:=gI _ _ _ _ k;exact gB.2 ⟨n+1,hn⟩
end limit
end Go.Am
