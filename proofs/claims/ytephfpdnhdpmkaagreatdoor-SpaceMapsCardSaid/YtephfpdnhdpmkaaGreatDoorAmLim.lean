/- THE LIMIT OF THE INTERPRETER: what it comes to with fuel enough; it answers to its own step. No condition. -/
import Derived.Test.YtephfpdnhdpmkaaGreatDoorAmDef
set_option linter.all false
namespace Go.Am
open Go
structure CB.Le (a b:CB):Prop where
 pc:∀f args r,a.pc f args=some r->b.pc f args=some r
 ic:∀f args H r,a.ic f args H=some r->b.ic f args H=some r
 yl:∀id args H r,a.yl id args H=some r->b.yl id args H=some r
 run:∀rd c fr H r,a.run rd c fr H=some r->b.run rd c fr H=some r
 cy:∀f,a.cy f=b.cy f
 sep:∀f args H r,a.ic f args H=some r->b.pc f args=none
section mono
variable {a b:CB} (h:CB.Le a b)
include h
theorem cx {f:FuncId} {args:List AV} {H:ab} {r:PR} (k:pcx a f args H=some r):pcx b f args H=some r:=by
 unfold pcx kS at*;rw[<-h.cy];split at k
 . rename_i hl;rw[if_pos hl];split at k
   . rename_i hv;rw[h.pc _ _ _ hv];exact k
   . rename_i hv;rw[h.pc _ _ _ hv];exact k
   . cases k
   . rename_i hv;rw[h.pc _ _ _ hv];exact k
   . rename_i hv;rw[h.pc _ _ _ hv];exact k
   . cases k
 . rename_i hl;rw[if_neg hl];exact h.pc _ _ _ k
theorem js {f:FuncId} {args:List AV} {H:ab} {r:Out×ab} (k:dL a f args H=some r):dL b f args H=some r:=by
 unfold dL at*;split at k
 . rename_i hv;rw[cx h hv];exact k
 . rename_i hv;rw[cx h hv];exact k
 . rename_i hv;rw[cx h hv];exact k
 . rename_i hv;rw[cx h hv];exact k
 . cases k
 . split at k
   . cases k
   . rename_i hl
     have e:pcx b f args H=none:=by
       unfold pcx;rw[<-h.cy,if_neg hl];exact h.sep _ _ _ _ k
     rw[e];simp only;rw[<-h.cy,if_neg hl];exact h.ic _ _ _ _ k
theorem jv {rw:Bool} {f:FuncId} {args:List AV} {H:ab} {r:Out×ab} (k:eE a rw f args H=some r):eE b rw f args H=some r:=by
 unfold eE at*;split at k
 . rename_i hv;rw[cx h hv];exact k
 . rename_i hv;rw[cx h hv];exact k
 . rename_i hv;rw[cx h hv];exact k
 . rename_i hv;rw[cx h hv];exact k
 . cases k
 . cases k
theorem dW {rd:Option Nat} {r:Ex×Fr×ab}:∀(ops:List ai) (fr:Fr) (H:ab),aU a rd ops fr H=some r->aU b rd ops fr H=some r:=by
 intro ops
 induction ops with
 |nil=>intro fr H k;exact k
 | cons o ops ih=>
   intro fr H k;rw[aU]at k ⊢;split at k
   . rename_i hw;rw[if_pos hw];split at k
     . exact ih _ _ k
     . split at k
       . exact ih _ _ k
       . exact ih _ _ k
       . split at k
         . rename_i hv;rw[js h hv];exact ih _ _ k
         . rename_i hv;rw[js h hv];exact k
         . cases k
       . split at k
         . rename_i hv;rw[jv h hv];exact ih _ _ k
         . rename_i hv;rw[jv h hv];exact k
         . cases k
       . split at k
         . rename_i hv;rw[h.yl _ _ _ _ hv];exact ih _ _ k
         . rename_i hv;rw[h.yl _ _ _ _ hv];exact k
         . cases k
       . exact k
       . split at k
         . cases k
         . rename_i hr;rw[if_neg hr];exact ih _ _ k
       . cases k
   . rename_i hw;rw[if_neg hw];exact ih _ _ k
theorem xY {o:ai} {tm:List AV} {H G:ab} {g:Nat} {v:AV×Option av} (k:ap1 a H G o tm g=some v):ap1 b H G o tm g=some v:=by
 unfold ap1 at*;split at k
 . rename_i hw;rw[if_pos hw];split at k
   . exact k
   . split at k
     . exact k
     . exact k
     . split at k
       . rename_i hv;rw[cx h hv];exact k
       . rename_i hv;rw[cx h hv];exact k
       . rename_i hv;rw[cx h hv];exact k
       . cases k
     . split at k
       . split at k
         . rename_i hv;simp only[cx h hv];exact k
         . rename_i hv;simp only[cx h hv];exact k
         . rename_i hv;simp only[cx h hv];exact k
         . cases k
       . cases k
     . split at k
       . rename_i hv;rw[cx h hv];exact k
       . cases k
     . exact k
     . exact k
 . rename_i hw;rw[if_neg hw];exact k
theorem mL {H:ab} {r:List AV×List av}:∀(ops:List ai) (tm:List AV) (e:List av),iW a H ops tm e=some r->iW b H ops tm e=some r:=by
 intro ops
 induction ops with
 |nil=>intro tm e k;exact k
 | cons o ops ih=>
   intro tm e k;rw[iW]at k ⊢;split at k
   . rename_i hv;rw[xY h hv];exact ih _ _ k
   . cases k
theorem bK {rd:Option Nat}:∀(c:aH) (fr:Fr) (H:ab) (r:Ex×Fr×ab),aN a rd c fr H=some r->aN b rd c fr H=some r:=by
 intro c
 induction c with
 |region ops=>intro fr H r k;exact dW h _ _ _ k
 | drawn pre tail=>
   intro fr H r k;rw[aN]at k ⊢;split at k
   . rename_i hv;rw[mL h _ _ _ hv];exact dW h _ _ _ k
   . cases k
 | seq x y ihx ihy=>
   intro fr H r k;rw[aN]at k ⊢;split at k
   . rename_i hv;rw[ihx _ _ _ hv];exact ihy _ _ _ k
   . rename_i hno;rw[ihx _ _ _ k];obtain⟨e,fr',H'⟩:=r
     cases e<;>first|rfl|exact absurd k (hno _ _)
 | cond x y z ihy ihz=>
   intro fr H r k;rw[aN]at k ⊢;split at k
   . exact ihy _ _ _ k
   . exact ihz _ _ _ k
   . cases k
 | block id x ih=>
   intro fr H r k;rw[aN]at k ⊢;split at k
   . rename_i hv;rw[ih _ _ _ hv];exact k
   . rename_i hno;rw[ih _ _ _ k];obtain⟨e,fr',H'⟩:=r
     cases e<;>first|rfl|exact absurd k (hno _ _ _)
 | loop x ih=>
   intro fr H r k;rw[aN]at k ⊢;split at k
   . rename_i hv;rw[ih _ _ _ hv];exact h.run _ _ _ _ _ k
   . rename_i hno;rw[ih _ _ _ k];obtain⟨e,fr',H'⟩:=r
     cases e<;>first|rfl|exact absurd k (hno _ _)
 | scope x ih=>
   intro fr H r k;rw[aN]at k ⊢;split at k
   . rename_i hv;rw[ih _ _ _ hv];simp only;split at k
     . exact h.run _ _ _ _ _ k
     . exact k
   . rename_i hno;rw[ih _ _ _ k];obtain⟨e,fr',H'⟩:=r
     cases e<;>first|rfl|exact absurd k (hno _ _ _)
 | b7 w x _ ih=>
   intro fr H r k;rw[aN]at k ⊢;split at k
   . rename_i hv;rw[ih _ _ _ hv];simp only;split at k
     . exact h.run _ _ _ _ _ k
     . exact k
   . rename_i hno;rw[ih _ _ _ k];obtain⟨e,fr',H'⟩:=r
     cases e<;>first|rfl|exact absurd k (hno _ _ _)
 | range x ps as bd _ _=>
   intro fr H r k;simp only[aN]at k ⊢;split at k
   . rename_i hv;split at k
     . split at k
       . rename_i hi;rw[h.ic _ _ _ _ hi];exact k
       . cases k
     . cases k
   . cases k
 |_=>intro fr H r k;exact k
theorem jc:∀(c:aH) (fr:Fr) (H:ab) (u:Mode) (r:Ex×Fr×ab×Mode),cU a c fr H u=some r->cU b c fr H u=some r:=by
 have plain:∀(c:aH) (fr:Fr) (H:ab) (u:Mode) (r:Ex×Fr×ab×Mode),(match aN a none c fr H with
     |some (e,fr',H')=>some (e,fr',H',u)
     |none=>none)=some r->(match aN b none c fr H with
     |some (e,fr',H')=>some (e,fr',H',u)
     |none=>none)=some r:=by
   intro c fr H u r k;split at k
   . rename_i hv;rw[bK h _ _ _ _ hv];exact k
   . cases k
 have regD:∀(ops:List ai) (fr:Fr) (H:ab) (u:Mode),cT a ops fr H u=cT b ops fr H u:=by
   intro ops
   induction ops with
   |nil=>intros;rfl
   |cons o ops ih=>intro fr H u;simp only[cT,ih]
 intro c
 induction c with
 | region ops=>
   intro fr H u r k;rw[cU]at k ⊢;split at k
   . rename_i hr;rw[if_pos hr,<-regD];exact k
   . rename_i hr;rw[if_neg hr];exact plain _ _ _ _ _ k
 | seq x y ihx ihy=>
   intro fr H u r k;rw[cU]at k ⊢;split at k
   . rename_i hv;rw[ihx _ _ _ _ hv];exact ihy _ _ _ _ k
   . rename_i hno;rw[ihx _ _ _ _ k];obtain⟨e,fr',H',u'⟩:=r
     cases e<;>first|rfl|exact absurd k (hno _ _ _)
 | _=>
   intro fr H u r k;simp only[cU]at k ⊢;split at k
   . rename_i hv;rw[bK h _ _ _ _ hv];exact k
   . cases k
theorem iR {fi:an} {args:List AV} {H:ab} {u:Mode} {r:Out×ab×Mode} (k:lS a fi args H u=some r):lS b fi args H u=some r:=by
 unfold lS at*;split at k
 . rename_i hv;rw[jc h _ _ _ _ _ hv];exact k
 . cases k
theorem eM {t1 t2:FuncId->Option an} (hs:∀f fi,t1 f=some fi->t2 f=some fi) {r:Mode×ab}:∀(ds:List ADf) (u:Mode) (H:ab),b6 t1 a ds u H=some r->b6 t2 b ds u H=some r:=by
 intro ds
 induction ds with
 |nil=>intro u H k;exact k
 | cons d ds ih=>
   intro u H k
   cases d with
   | mark id=>
     rw[b6]at k ⊢;split at k
     . exact ih _ _ k
     . cases k
   | call f args=>
     rw[b6]at k ⊢;split at k
     . rename_i hf;rw[hs _ _ hf];simp only;split at k
       . rename_i hv;rw[iR h hv];exact ih _ _ k
       . rename_i hv;rw[iR h hv];exact ih _ _ k
       . cases k
     . cases k
theorem oU {t1 t2:FuncId->Option an} (hs:∀f fi,t1 f=some fi->t2 f=some fi) {fi:an} {args:List AV} {H:ab} {r:Out×ab} (k:fR t1 a fi args H=some r):fR t2 b fi args H=some r:=by
 unfold fR at*;split at k
 . rename_i hv;rw[bK h _ _ _ _ hv];simp only;split at k
   . split at k
     . rename_i hl;rw[eM h hs _ _ _ hl];exact k
     . rename_i hl;rw[eM h hs _ _ _ hl];exact k
     . cases k
   . cases k
 . cases k
theorem u5 {t1 t2:FuncId->Option an} (hs:∀f fi,t1 f=some fi->t2 f=some fi) {f:FuncId} {args:List AV} {r:PR} (k:pcA t1 a f args=some r):pcA t2 b f args=some r:=by
 unfold pcA at*;split at k
 . rename_i hf;rw[hs _ _ hf];simp only;split at k
   . exact k
   split at k
   . rename_i hc;rw[if_pos hc]
     cases hb:fR t1 a _ (args.map aC) [] with
     |none=>rw[hb,r8]at k;cases k
     |some q=>rw[hb]at k;rw[oU h hs hb];exact k
   . cases k
 . cases k
theorem wY {t1 t2:FuncId->Option an} (hs:∀f fi,t1 f=some fi->t2 f=some fi) {f:FuncId} {args:List AV} {H:ab} {r:Out×ab} (k:icA t1 a f args H=some r):icA t2 b f args H=some r:=by
 unfold icA at*;split at k
 . rename_i hf;rw[hs _ _ hf];simp only;split at k
   . cases k
   . rename_i hc;rw[if_neg hc];split at k
     . exact k
     . exact oU h hs k
 . cases k
theorem x6 {id:Nat} {args:List AV} {H:ab} {r:Out×ab} (k:ylA a id args H=some r):ylA b id args H=some r:=by
 unfold ylA at*;split at k
 . split at k
   . rename_i hl;rw[if_pos hl];split at k
     . rename_i hv;rw[bK h _ _ _ _ hv];simp only;split at k
       . split at k
         . rename_i hv2;rw[bK h _ _ _ _ hv2];exact k
         . cases k
       . cases k
     . cases k
   . cases k
 . cases k
theorem v7 {t1 t2:FuncId->Option an} (hs:∀f fi,t1 f=some fi->t2 f=some fi) (hl:∀f,gP t1 f=gP t2 f):CB.Le (s9 t1 a) (s9 t2 b):=
 ⟨fun _ _ _=>u5 h hs,fun _ _ _ _=>wY h hs,fun _ _ _ _=>x6 h,fun _ _ _ _ _=>bK h _ _ _ _,hl,fun f args H r k=>by
   have k:icA t1 a f args H=some r:=k;show pcA t2 b f args=none
   unfold icA at k;unfold pcA;split at k
   . rename_i fi hf;rw[hs _ _ hf];simp only;split at k
     . cases k
     . rename_i hp
       cases hcn:fi.con with
       |none=>rw[hcn]at hp;simp only[Option.isSome_none,Bool.false_or,Bool.not_eq_true]at hp;simp[hp,hcn]
       |some g=>rw[hcn]at hp;simp at hp
   . cases k⟩
theorem Cf (tab:FuncId->Option an):CB.Le (s9 tab a) (s9 tab b):=v7 h (fun _ _ h=>h) fun _=>rfl
end mono
theorem bA (tab:FuncId->Option an):∀{n m:Nat},n<=m->CB.Le (cbs tab n) (cbs tab m)
 |0,0,_=>⟨fun _ _ _ h=>h,fun _ _ _ _ h=>h,fun _ _ _ _ h=>h,fun _ _ _ _ _ h=>h,fun _=>rfl,fun _ _ _ _ h=>(by cases h)⟩
 |0,m+1,_=>⟨fun _ _ _ h=>(by cases h),fun _ _ _ _ h=>(by cases h),fun _ _ _ _ h=>(by cases h),fun _ _ _ _ _ h=>(by cases h),fun f=>(by first|rfl|(cases ‹Nat› <;>rfl)),fun _ _ _ _ h=>(by cases h)⟩
 |n+1,0,h=>absurd h (by omega)
 |n+1,m+1,h=>Cf (bA tab (by omega)) tab
open Classical in
noncomputable def lim {α:Type} (f:Nat->Option α):Option α:=if h:∃n r,f n=some r then f h.choose else none
theorem l6 {α:Type} {f:Nat->Option α} (hm:∀n m r,n<=m->f n=some r->f m=some r) {r:α}:lim f=some r↔∃n,f n=some r:=by
 unfold lim;constructor
 . intro h;split at h
   . exact⟨_,h⟩
   . cases h
 . rintro ⟨n,hn⟩
   have h:∃n r,f n=some r:=⟨n,r,hn⟩;rw[dif_pos h];obtain⟨r',hr'⟩:=h.choose_spec;have h1:=hm _ (max n h.choose) _ (Nat.le_max_right _ _) hr';have h2:=hm _ (max n h.choose) _ (Nat.le_max_left _ _) hn;rw[h1]at h2;rw[hr',h2]
noncomputable def cbL (tab:FuncId->Option an):CB:=
 ⟨fun f args=>lim fun n=>(cbs tab n).pc f args,fun f args H=>lim fun n=>(cbs tab n).ic f args H,fun id args H=>lim fun n=>(cbs tab n).yl id args H,fun rd c fr H=>lim fun n=>(cbs tab n).run rd c fr H,gP tab⟩
section limit
variable {tab:FuncId->Option an}
theorem dC {f:FuncId} {args:List AV} {r:PR}:(cbL tab).pc f args=some r↔∃n,(cbs tab n).pc f args=some r:=l6 fun _ _ _ h=>(bA tab h).pc _ _ _
theorem g7 {f:FuncId} {args:List AV} {H:ab} {r:Out×ab}:(cbL tab).ic f args H=some r↔∃n,(cbs tab n).ic f args H=some r:=l6 fun _ _ _ h=>(bA tab h).ic _ _ _ _
theorem kD {id:Nat} {args:List AV} {H:ab} {r:Out×ab}:(cbL tab).yl id args H=some r↔∃n,(cbs tab n).yl id args H=some r:=l6 fun _ _ _ h=>(bA tab h).yl _ _ _ _
theorem gh {rd:Option Nat} {c:aH} {fr:Fr} {H:ab} {r:Ex×Fr×ab}:(cbL tab).run rd c fr H=some r↔∃n,(cbs tab n).run rd c fr H=some r:=l6 fun _ _ _ h=>(bA tab h).run _ _ _ _ _
theorem eh (n:Nat) (f:FuncId):(cbs tab n).cy f=(cbL tab).cy f:=by cases n<;>rfl
theorem pN (n:Nat):CB.Le (cbs tab n) (cbL tab):=
 ⟨fun _ _ _ h=>dC.2 ⟨n,h⟩,fun _ _ _ _ h=>g7.2 ⟨n,h⟩,fun _ _ _ _ h=>kD.2 ⟨n,h⟩,fun _ _ _ _ _ h=>gh.2 ⟨n,h⟩,eh n,fun f args H r h=>by
   cases hp:(cbL tab).pc f args with
   |none=>rfl
   | some q=>
     obtain⟨m,hm⟩:=dC.1 hp;have h1:=(bA tab (Nat.le_max_left n m)).sep f args H r h;have h2:=(bA tab (Nat.le_max_right n m)).pc _ _ _ hm;rw[h1]at h2
     cases h2⟩
theorem jM {t1 t2:FuncId->Option an} (hs:∀f fi,t1 f=some fi->t2 f=some fi) (hl:∀f,gP t1 f=gP t2 f):∀n,CB.Le (cbs t1 n) (cbs t2 n)
 |0=>⟨fun _ _ _ h=>(by cases h),fun _ _ _ _ h=>(by cases h),fun _ _ _ _ h=>(by cases h),fun _ _ _ _ _ h=>(by cases h),hl,fun _ _ _ _ h=>(by cases h)⟩
 |n+1=>v7 (jM hs hl n) hs hl
theorem Jt {t1 t2:FuncId->Option an} (hs:∀f fi,t1 f=some fi->t2 f=some fi) (hl:∀f,gP t1 f=gP t2 f):CB.Le (cbL t1) (cbL t2):=
 ⟨fun _ _ _ h=>by obtain⟨n,k⟩:=dC.1 h;exact dC.2 ⟨n,(jM hs hl n).pc _ _ _ k⟩,
  fun _ _ _ _ h=>by obtain⟨n,k⟩:=g7.1 h;exact g7.2 ⟨n,(jM hs hl n).ic _ _ _ _ k⟩,
  fun _ _ _ _ h=>by obtain⟨n,k⟩:=kD.1 h;exact kD.2 ⟨n,(jM hs hl n).yl _ _ _ _ k⟩,
  fun _ _ _ _ _ h=>by obtain⟨n,k⟩:=gh.1 h;exact gh.2 ⟨n,(jM hs hl n).run _ _ _ _ _ k⟩,hl,fun f args H r h=>by
   obtain⟨n,k⟩:=g7.1 h
   exact(pN n).sep f args H r ((jM hs hl n).ic _ _ _ _ k)⟩
theorem db {f:FuncId} {args:List AV} {H:ab} {r:PR} (k:pcx (cbL tab) f args H=some r):∃n,pcx (cbs tab n) f args H=some r:=by
 unfold pcx kS at*;split at k
 . rename_i hl;split at k
   . rename_i hv;obtain⟨n,hn⟩:=dC.1 hv;exact⟨n,by rw[eh,if_pos hl,hn];exact k⟩
   . rename_i hv;obtain⟨n,hn⟩:=dC.1 hv;exact⟨n,by rw[eh,if_pos hl,hn];exact k⟩
   . cases k
   . rename_i hv;obtain⟨n,hn⟩:=dC.1 hv;exact⟨n,by rw[eh,if_pos hl,hn];exact k⟩
   . rename_i hv;obtain⟨n,hn⟩:=dC.1 hv;exact⟨n,by rw[eh,if_pos hl,hn];exact k⟩
   . cases k
 . rename_i hl;obtain⟨n,hn⟩:=dC.1 k;exact⟨n,by rw[eh,if_neg hl];exact hn⟩
theorem p5 {f:FuncId} {args:List AV} {H:ab} {r:Out×ab} (k:dL (cbL tab) f args H=some r):∃n,dL (cbs tab n) f args H=some r:=by
 unfold dL at*;split at k
 . rename_i hv;obtain⟨n,hn⟩:=db hv;exact⟨n,by rw[hn];exact k⟩
 . rename_i hv;obtain⟨n,hn⟩:=db hv;exact⟨n,by rw[hn];exact k⟩
 . rename_i hv;obtain⟨n,hn⟩:=db hv;exact⟨n,by rw[hn];exact k⟩
 . rename_i hv;obtain⟨n,hn⟩:=db hv;exact⟨n,by rw[hn];exact k⟩
 . cases k
 . split at k
   . cases k
   . rename_i hl;obtain⟨n,hn⟩:=g7.1 k;refine⟨n, ?_⟩
     have e:pcx (cbs tab n) f args H=none:=by
       unfold pcx;rw[eh,if_neg hl];exact(bA tab (Nat.le_refl n)).sep _ _ _ _ hn
     rw[e];simp only;rw[eh,if_neg hl];exact hn
theorem pR {rw:Bool} {f:FuncId} {args:List AV} {H:ab} {r:Out×ab} (k:eE (cbL tab) rw f args H=some r):∃n,eE (cbs tab n) rw f args H=some r:=by
 unfold eE at*;split at k
 . rename_i hv;obtain⟨n,hn⟩:=db hv;exact⟨n,by rw[hn];exact k⟩
 . rename_i hv;obtain⟨n,hn⟩:=db hv;exact⟨n,by rw[hn];exact k⟩
 . rename_i hv;obtain⟨n,hn⟩:=db hv;exact⟨n,by rw[hn];exact k⟩
 . rename_i hv;obtain⟨n,hn⟩:=db hv;exact⟨n,by rw[hn];exact k⟩
 . cases k
 . cases k
theorem nW {rd:Option Nat} {r:Ex×Fr×ab}:∀(ops:List ai) (fr:Fr) (H:ab),aU (cbL tab) rd ops fr H=some r->∃n,aU (cbs tab n) rd ops fr H=some r:=by
 intro ops
 induction ops with
 |nil=>intro fr H k;exact⟨0,k⟩
 | cons o ops ih=>
   intro fr H k;rw[aU]at k;simp only[aU];split at k
   . rename_i hw
     (try simp only[if_pos hw])
     split at k
     . rename_i hv;(try simp only[hv]);exact ih _ _ k
     . rename_i hv
       (try simp only[hv])
       split at k
       . rename_i hc;(try simp only[hc]);exact ih _ _ k
       . rename_i hc;(try simp only[hc]);exact ih _ _ k
       . rename_i hc
         (try simp only[hc])
         split at k
         . rename_i he;obtain⟨n,hn⟩:=p5 he;obtain⟨m,hm⟩:=ih _ _ k;refine⟨max n m, ?_⟩;rw[js (bA tab (Nat.le_max_left n m)) hn];exact dW (bA tab (Nat.le_max_right n m)) _ _ _ hm
         . rename_i he;obtain⟨n,hn⟩:=p5 he;exact⟨n,by rw[hn];exact k⟩
         . cases k
       . rename_i hc
         (try simp only[hc])
         split at k
         . rename_i he;obtain⟨n,hn⟩:=pR he;obtain⟨m,hm⟩:=ih _ _ k;refine⟨max n m, ?_⟩;rw[jv (bA tab (Nat.le_max_left n m)) hn];exact dW (bA tab (Nat.le_max_right n m)) _ _ _ hm
         . rename_i he;obtain⟨n,hn⟩:=pR he;exact⟨n,by rw[hn];exact k⟩
         . cases k
       . rename_i hc
         (try simp only[hc])
         split at k
         . rename_i he;obtain⟨n,hn⟩:=kD.1 he;obtain⟨m,hm⟩:=ih _ _ k;refine⟨max n m, ?_⟩;rw[(bA tab (Nat.le_max_left n m)).yl _ _ _ _ hn];exact dW (bA tab (Nat.le_max_right n m)) _ _ _ hm
         . rename_i he;obtain⟨n,hn⟩:=kD.1 he;exact⟨n,by rw[hn];exact k⟩
         . cases k
       . rename_i hc;(try simp only[hc]);exact⟨0,k⟩
       . rename_i hc
         (try simp only[hc])
         split at k
         . cases k
         . rename_i hr;(try simp only[if_neg hr]);exact ih _ _ k
       . cases k
   . rename_i hw
     (try simp only[if_neg hw])
     exact ih _ _ k
theorem IV {o:ai} {tm:List AV} {H G:ab} {g:Nat} {v:AV×Option av} (k:ap1 (cbL tab) H G o tm g=some v):∃n,ap1 (cbs tab n) H G o tm g=some v:=by
 unfold ap1 at*;split at k
 . rename_i hw
   (try simp only[if_pos hw])
   split at k
   . rename_i hv;(try simp only[hv]);exact⟨0,k⟩
   . rename_i hv
     (try simp only[hv])
     split at k
     . rename_i ho;(try simp only[ho]);exact⟨0,k⟩
     . rename_i ho;(try simp only[ho]);exact⟨0,k⟩
     . rename_i ho
       (try simp only[ho])
       split at k
       . rename_i hp;obtain⟨n,hn⟩:=db hp;exact⟨n,by rw[hn];exact k⟩
       . rename_i hp;obtain⟨n,hn⟩:=db hp;exact⟨n,by rw[hn];exact k⟩
       . rename_i hp;obtain⟨n,hn⟩:=db hp;exact⟨n,by rw[hn];exact k⟩
       . cases k
     . rename_i ho
       (try simp only[ho])
       split at k
       . rename_i hcal
         (try simp only[hcal])
         split at k
         . rename_i hp;obtain⟨n,hn⟩:=db hp;exact⟨n,by(try simp only[hcal,hn]);exact k⟩
         . rename_i hp;obtain⟨n,hn⟩:=db hp;exact⟨n,by(try simp only[hcal,hn]);exact k⟩
         . rename_i hp;obtain⟨n,hn⟩:=db hp;exact⟨n,by(try simp only[hcal,hn]);exact k⟩
         . cases k
       . cases k
     . rename_i ho
       (try simp only[ho])
       split at k
       . rename_i hp;obtain⟨n,hn⟩:=db hp;exact⟨n,by rw[hn];exact k⟩
       . cases k
     . rename_i ho;(try simp only[ho]);exact⟨0,k⟩
     . exact⟨0,k⟩
 . rename_i hw
   (try simp only[if_neg hw])
   exact⟨0,k⟩
theorem DK {H:ab} {r:List AV×List av}:∀(ops:List ai) (tm:List AV) (e:List av),iW (cbL tab) H ops tm e=some r->∃n,iW (cbs tab n) H ops tm e=some r:=by
 intro ops
 induction ops with
 |nil=>intro tm e k;exact⟨0,k⟩
 | cons o ops ih=>
   intro tm e k;rw[iW]at k;split at k
   . rename_i hv;obtain⟨n,hn⟩:=IV hv;obtain⟨m,hm⟩:=ih _ _ k;refine⟨max n m, ?_⟩;rw[iW,xY (bA tab (Nat.le_max_left n m)) hn];exact mL (bA tab (Nat.le_max_right n m)) _ _ _ hm
   . cases k
theorem gw {rd:Option Nat}:∀(c:aH) (fr:Fr) (H:ab) (r:Ex×Fr×ab),aN (cbL tab) rd c fr H=some r->∃n,aN (cbs tab n) rd c fr H=some r:=by
 intro c
 induction c with
 |region ops=>intro fr H r k;exact nW _ _ _ k
 | drawn pre tail=>
   intro fr H r k;rw[aN]at k;split at k
   . rename_i hv;obtain⟨n,hn⟩:=DK _ _ _ hv;obtain⟨m,hm⟩:=nW _ _ _ k;refine⟨max n m, ?_⟩;rw[aN,mL (bA tab (Nat.le_max_left n m)) _ _ _ hn];exact dW (bA tab (Nat.le_max_right n m)) _ _ _ hm
   . cases k
 | seq x y ihx ihy=>
   intro fr H r k;rw[aN]at k;split at k
   . rename_i hv;obtain⟨n,hn⟩:=ihx _ _ _ hv;obtain⟨m,hm⟩:=ihy _ _ _ k;refine⟨max n m, ?_⟩;rw[aN,bK (bA tab (Nat.le_max_left n m)) _ _ _ _ hn];exact bK (bA tab (Nat.le_max_right n m)) _ _ _ _ hm
   . rename_i hno;obtain⟨n,hn⟩:=ihx _ _ _ k;refine⟨n, ?_⟩;rw[aN,hn];obtain⟨e,fr',H'⟩:=r
     cases e<;>first|rfl|exact absurd k (hno _ _)
 | cond x y z ihy ihz=>
   intro fr H r k;rw[aN]at k;simp only[aN];split at k
   . rename_i he;(try simp only[he]);exact ihy _ _ _ k
   . rename_i he;(try simp only[he]);exact ihz _ _ _ k
   . cases k
 | block id x ih=>
   intro fr H r k;rw[aN]at k;split at k
   . rename_i hv;obtain⟨n,hn⟩:=ih _ _ _ hv;exact⟨n,by rw[aN,hn];exact k⟩
   . rename_i hno;obtain⟨n,hn⟩:=ih _ _ _ k;refine⟨n, ?_⟩;rw[aN,hn];obtain⟨e,fr',H'⟩:=r
     cases e<;>first|rfl|exact absurd k (hno _ _ _)
 | loop x ih=>
   intro fr H r k;rw[aN]at k;split at k
   . rename_i hv;obtain⟨n,hn⟩:=ih _ _ _ hv;obtain⟨m,hm⟩:=gh.1 k;refine⟨max n m, ?_⟩;rw[aN,bK (bA tab (Nat.le_max_left n m)) _ _ _ _ hn];exact(bA tab (Nat.le_max_right n m)).run _ _ _ _ _ hm
   . rename_i hno;obtain⟨n,hn⟩:=ih _ _ _ k;refine⟨n, ?_⟩;rw[aN,hn];obtain⟨e,fr',H'⟩:=r
     cases e<;>first|rfl|exact absurd k (hno _ _)
 | scope x ih=>
   intro fr H r k;rw[aN]at k;split at k
   . rename_i hv;obtain⟨n,hn⟩:=ih _ _ _ hv;split at k
     . rename_i hf;obtain⟨m,hm⟩:=gh.1 k;refine⟨max n m, ?_⟩;rw[aN,bK (bA tab (Nat.le_max_left n m)) _ _ _ _ hn]
       (try simp only[hf])
       exact(bA tab (Nat.le_max_right n m)).run _ _ _ _ _ hm
     . rename_i hf;refine⟨n, ?_⟩;rw[aN,hn]
       (try simp only[hf])
       exact k
   . rename_i hno;obtain⟨n,hn⟩:=ih _ _ _ k;refine⟨n, ?_⟩;rw[aN,hn];obtain⟨e,fr',H'⟩:=r
     cases e<;>first|rfl|exact absurd k (hno _ _ _)
 | b7 w x _ ih=>
   intro fr H r k;rw[aN]at k;split at k
   . rename_i hv;obtain⟨n,hn⟩:=ih _ _ _ hv;split at k
     . rename_i hf;obtain⟨m,hm⟩:=gh.1 k;refine⟨max n m, ?_⟩;rw[aN,bK (bA tab (Nat.le_max_left n m)) _ _ _ _ hn]
       (try simp only[hf])
       exact(bA tab (Nat.le_max_right n m)).run _ _ _ _ _ hm
     . rename_i hf;refine⟨n, ?_⟩;rw[aN,hn]
       (try simp only[hf])
       exact k
   . rename_i hno;obtain⟨n,hn⟩:=ih _ _ _ k;refine⟨n, ?_⟩;rw[aN,hn];obtain⟨e,fr',H'⟩:=r
     cases e<;>first|rfl|exact absurd k (hno _ _ _)
 | range x ps as bd _ _=>
   intro fr H r k;simp only[aN]at k ⊢;split at k
   . rename_i hv
     (try simp only[hv])
     split at k
     . rename_i hx
       (try simp only[hx])
       split at k
       . rename_i hi;obtain⟨n,hn⟩:=g7.1 hi;exact⟨n,by rw[hn];exact k⟩
       . cases k
     . cases k
   . cases k
 |_=>intro fr H r k;exact⟨0,k⟩
theorem zi:∀(c:aH) (fr:Fr) (H:ab) (u:Mode) (r:Ex×Fr×ab×Mode),cU (cbL tab) c fr H u=some r->∃n,cU (cbs tab n) c fr H u=some r:=by
 have plain:∀(c:aH) (fr:Fr) (H:ab) (u:Mode) (r:Ex×Fr×ab×Mode),(match aN (cbL tab) none c fr H with
     |some (e,fr',H')=>some (e,fr',H',u)
     |none=>none)=some r->∃n,(match aN (cbs tab n) none c fr H with
     |some (e,fr',H')=>some (e,fr',H',u)
     |none=>none)=some r:=by
   intro c fr H u r k;split at k
   . rename_i hv;obtain⟨n,hn⟩:=gw _ _ _ _ hv;exact⟨n,by rw[hn];exact k⟩
   . cases k
 have regD:∀(a b:CB) (ops:List ai) (fr:Fr) (H:ab) (u:Mode),cT a ops fr H u=cT b ops fr H u:=by
   intro a b ops
   induction ops with
   |nil=>intros;rfl
   |cons o ops ih=>intro fr H u;simp only[cT,ih]
 intro c
 induction c with
 | region ops=>
   intro fr H u r k;rw[cU]at k;simp only[cU];split at k
   . rename_i hr;(try simp only[if_pos hr]);exact⟨0,by rw[regD _ (cbL tab)];exact k⟩
   . rename_i hr;(try simp only[if_neg hr]);exact plain _ _ _ _ _ k
 | seq x y ihx ihy=>
   intro fr H u r k;rw[cU]at k;split at k
   . rename_i hv;obtain⟨n,hn⟩:=ihx _ _ _ _ hv;obtain⟨m,hm⟩:=ihy _ _ _ _ k;refine⟨max n m, ?_⟩;rw[cU,jc (bA tab (Nat.le_max_left n m)) _ _ _ _ _ hn];exact jc (bA tab (Nat.le_max_right n m)) _ _ _ _ _ hm
   . rename_i hno;obtain⟨n,hn⟩:=ihx _ _ _ _ k;refine⟨n, ?_⟩;rw[cU,hn];obtain⟨e,fr',H',u'⟩:=r
     cases e<;>first|rfl|exact absurd k (hno _ _ _)
 | _=>
   intro fr H u r k;simp only[cU]at k ⊢;split at k
   . rename_i hv;obtain⟨n,hn⟩:=gw _ _ _ _ hv;exact⟨n,by rw[hn];exact k⟩
   . cases k
theorem sK {fi:an} {args:List AV} {H:ab} {u:Mode} {r:Out×ab×Mode} (k:lS (cbL tab) fi args H u=some r):∃n,lS (cbs tab n) fi args H u=some r:=by
 unfold lS at*;split at k
 . rename_i hv;obtain⟨n,hn⟩:=zi _ _ _ _ _ hv;exact⟨n,by rw[hn];exact k⟩
 . cases k
theorem pZ {r:Mode×ab}:∀(ds:List ADf) (u:Mode) (H:ab),b6 tab (cbL tab) ds u H=some r->∃n,b6 tab (cbs tab n) ds u H=some r:=by
 intro ds
 induction ds with
 |nil=>intro u H k;exact⟨0,k⟩
 | cons d ds ih=>
   intro u H k
   cases d with
   | mark id=>
     rw[b6]at k;simp only[b6];split at k
     . rename_i ho;(try simp only[ho]);exact ih _ _ k
     . cases k
   | call f args=>
     rw[b6]at k;simp only[b6];split at k
     . rename_i hf
       (try simp only[hf])
       split at k
       . rename_i hv;obtain⟨n,hn⟩:=sK hv;obtain⟨m,hm⟩:=ih _ _ k;refine⟨max n m, ?_⟩;rw[iR (bA tab (Nat.le_max_left n m)) hn];exact eM (bA tab (Nat.le_max_right n m)) (fun _ _ h=>h) _ _ _ hm
       . rename_i hv;obtain⟨n,hn⟩:=sK hv;obtain⟨m,hm⟩:=ih _ _ k;refine⟨max n m, ?_⟩;rw[iR (bA tab (Nat.le_max_left n m)) hn];exact eM (bA tab (Nat.le_max_right n m)) (fun _ _ h=>h) _ _ _ hm
       . cases k
     . cases k
theorem sB {fi:an} {args:List AV} {H:ab} {r:Out×ab} (k:fR tab (cbL tab) fi args H=some r):∃n,fR tab (cbs tab n) fi args H=some r:=by
 unfold fR at*;split at k
 . rename_i hv;obtain⟨n,hn⟩:=gw _ _ _ _ hv;split at k
   . rename_i hu;split at k
     . rename_i hl;obtain⟨m,hm⟩:=pZ _ _ _ hl;refine⟨max n m, ?_⟩;rw[bK (bA tab (Nat.le_max_left n m)) _ _ _ _ hn]
       (try simp only[hu])
       rw[eM (bA tab (Nat.le_max_right n m)) (fun _ _ h=>h) _ _ _ hm];exact k
     . rename_i hl;obtain⟨m,hm⟩:=pZ _ _ _ hl;refine⟨max n m, ?_⟩;rw[bK (bA tab (Nat.le_max_left n m)) _ _ _ _ hn]
       (try simp only[hu])
       rw[eM (bA tab (Nat.le_max_right n m)) (fun _ _ h=>h) _ _ _ hm];exact k
     . cases k
   . cases k
 . cases k
theorem tq {f:FuncId} {args:List AV} {r:PR} (k:pcA tab (cbL tab) f args=some r):(cbL tab).pc f args=some r:=by
 unfold pcA at k;split at k
 . rename_i fi hf;split at k
   . rename_i g hg;refine dC.2 ⟨1, ?_⟩;show pcA tab (cbs tab 0) f args=some r
     unfold pcA;rw[hf];simp only[hg];exact k
   rename_i hg;split at k
   . rename_i hc
     cases hb:fR tab (cbL tab) fi (args.map aC) [] with
     |none=>rw[hb,r8]at k;cases k
     | some q=>
       obtain⟨n,hn⟩:=sB hb;refine dC.2 ⟨n+1, ?_⟩;show pcA tab (cbs tab n) f args=some r
       unfold pcA;rw[hf];simp only[hg,hc,if_true];rw[hn,<-hb];exact k
   . cases k
 . cases k
theorem EE {f:FuncId} {args:List AV} {H:ab} {r:Out×ab} (k:icA tab (cbL tab) f args H=some r):(cbL tab).ic f args H=some r:=by
 unfold icA at k;split at k
 . rename_i fi hf;split at k
   . cases k
   . rename_i hc;split at k
     . rename_i hg;refine g7.2 ⟨1, ?_⟩;show icA tab (cbs tab 0) f args H=some r
       unfold icA;rw[hf];simp only[hc,if_neg,Bool.false_eq_true,not_false_eq_true];rw[hg];exact k
     . rename_i hg;obtain⟨n,hn⟩:=sB k;refine g7.2 ⟨n+1, ?_⟩;show icA tab (cbs tab n) f args H=some r
       unfold icA;rw[hf];simp only[hc,if_neg,Bool.false_eq_true,not_false_eq_true];rw[hg];exact hn
 . cases k
theorem Kq {id:Nat} {args:List AV} {H:ab} {r:Out×ab} (k:ylA (cbL tab) id args H=some r):(cbL tab).yl id args H=some r:=by
 have:∃n,ylA (cbs tab n) id args H=some r:=by
   unfold ylA at k;split at k
   . rename_i hl0;split at k
     . rename_i hl;split at k
       . rename_i hv;obtain⟨n,hn⟩:=gw _ _ _ _ hv;split at k
         . rename_i hl2;split at k
           . rename_i hv2;obtain⟨m,hm⟩:=gw _ _ _ _ hv2;refine⟨max n m, ?_⟩;unfold ylA;rw[hl0];simp only[hl,if_true];rw[bK (bA tab (Nat.le_max_left n m)) _ _ _ _ hn]
             (try simp only[hl2])
             rw[bK (bA tab (Nat.le_max_right n m)) _ _ _ _ hm];exact k
           . cases k
         . cases k
       . cases k
     . cases k
   . cases k
 obtain⟨n,hn⟩:=this;exact kD.2 ⟨n+1,hn⟩
theorem DH {rd:Option Nat} {c:aH} {fr:Fr} {H:ab} {r:Ex×Fr×ab} (k:aN (cbL tab) rd c fr H=some r):(cbL tab).run rd c fr H=some r:=by
 obtain⟨n,hn⟩:=gw _ _ _ _ k;exact gh.2 ⟨n+1,hn⟩
end limit
end Go.Am
