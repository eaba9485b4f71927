/- THE LIMIT OF THE INTERPRETER: what it comes to with fuel enough; it answers to its own step. No condition. -/
import Derived.Test.YtephfpdnhdpmkaaGreatDoorAmDef
set_option linter.all false
namespace Go.Am
open Go
structure CB.Le (a b:CB):Prop where
 pc:∀f args r,a.pc f args=some r->b.pc f args=some r
 ic:∀f args H r,a.ic f args H=some r->b.ic f args H=some r
 yl:∀id args H r,a.yl id args H=some r->b.yl id args H=some r
 run:∀rd c fr H r,a.run rd c fr H=some r->b.run rd c fr H=some r
 cj:∀f,a.cj f=b.cj f
 sep:∀f args H r,a.ic f args H=some r->b.pc f args=none
section mono
variable {a b:CB} (h:CB.Le a b)
include h
theorem cC {f:FuncId} {args:List AV} {H:ab} {r:PR} (k:pcx a f args H=some r):pcx b f args H=some r:=by
 unfold pcx uQ at*;rw[<-h.cj];split at k
 . rename_i hl;rw[if_pos hl];split at k
   . rename_i hv;rw[h.pc _ _ _ hv];exact k
   . rename_i hv;rw[h.pc _ _ _ hv];exact k
   . cases k
   . rename_i hv;rw[h.pc _ _ _ hv];exact k
   . rename_i hv;rw[h.pc _ _ _ hv];exact k
   . cases k
 . rename_i hl;rw[if_neg hl];exact h.pc _ _ _ k
theorem jv {f:FuncId} {args:List AV} {H:ab} {r:Out×ab} (k:dS a f args H=some r):dS b f args H=some r:=by
 unfold dS at*;split at k
 . rename_i hv;rw[cC h hv];exact k
 . rename_i hv;rw[cC h hv];exact k
 . rename_i hv;rw[cC h hv];exact k
 . rename_i hv;rw[cC h hv];exact k
 . cases k
 . split at k
   . cases k
   . rename_i hl
     have e:pcx b f args H=none:=by
       unfold pcx;rw[<-h.cj,if_neg hl];exact h.sep _ _ _ _ k
     rw[e];simp only;rw[<-h.cj,if_neg hl];exact h.ic _ _ _ _ k
theorem jO {rw:Bool} {f:FuncId} {args:List AV} {H:ab} {r:Out×ab} (k:eJ a rw f args H=some r):eJ b rw f args H=some r:=by
 unfold eJ at*;split at k
 . rename_i hv;rw[cC h hv];exact k
 . rename_i hv;rw[cC h hv];exact k
 . rename_i hv;rw[cC h hv];exact k
 . rename_i hv;rw[cC h hv];exact k
 . cases k
 . cases k
theorem ef {rd:Option Nat} {r:Ex×Fr×ab}:∀(ops:List ai) (fr:Fr) (H:ab),aT a rd ops fr H=some r->aT b rd ops fr H=some r:=by
 intro ops
 induction ops with
 |nil=>intro fr H k;exact k
 | cons o ops ih=>
   intro fr H k;rw[aT]at k ⊢;split at k
   . rename_i hw;rw[if_pos hw];split at k
     . exact ih _ _ k
     . split at k
       . exact ih _ _ k
       . exact ih _ _ k
       . split at k
         . rename_i hv;rw[jv h hv];exact ih _ _ k
         . rename_i hv;rw[jv h hv];exact k
         . cases k
       . split at k
         . rename_i hv;rw[jO h hv];exact ih _ _ k
         . rename_i hv;rw[jO h hv];exact k
         . cases k
       . split at k
         . rename_i hv;rw[h.yl _ _ _ _ hv];exact ih _ _ k
         . rename_i hv;rw[h.yl _ _ _ _ hv];exact k
         . cases k
       . exact k
       . split at k
         . cases k
         . rename_i hr;rw[if_neg hr];exact ih _ _ k
       . cases k
   . rename_i hw;rw[if_neg hw];exact ih _ _ k
theorem wX {o:ai} {tm:List AV} {H G:ab} {g:Nat} {v:AV×Option aj} (k:ap1 a H G o tm g=some v):ap1 b H G o tm g=some v:=by
 unfold ap1 at*;split at k
 . rename_i hw;rw[if_pos hw];split at k
   . exact k
   . split at k
     . exact k
     . exact k
     . split at k
       . rename_i hv;rw[cC h hv];exact k
       . rename_i hv;rw[cC h hv];exact k
       . rename_i hv;rw[cC h hv];exact k
       . cases k
     . split at k
       . split at k
         . rename_i hv;simp only[cC h hv];exact k
         . rename_i hv;simp only[cC h hv];exact k
         . rename_i hv;simp only[cC h hv];exact k
         . cases k
       . cases k
     . split at k
       . rename_i hv;rw[cC h hv];exact k
       . cases k
     . exact k
     . exact k
 . rename_i hw;rw[if_neg hw];exact k
theorem mZ {H:ab} {r:List AV×List aj}:∀(ops:List ai) (tm:List AV) (e:List aj),js a H ops tm e=some r->js b H ops tm e=some r:=by
 intro ops
 induction ops with
 |nil=>intro tm e k;exact k
 | cons o ops ih=>
   intro tm e k;rw[js]at k ⊢;split at k
   . rename_i hv;rw[wX h hv];exact ih _ _ k
   . cases k
theorem bL {rd:Option Nat}:∀(c:aC) (fr:Fr) (H:ab) (r:Ex×Fr×ab),aN a rd c fr H=some r->aN b rd c fr H=some r:=by
 intro c
 induction c with
 |region ops=>intro fr H r k;exact ef h _ _ _ k
 | drawn pre tail=>
   intro fr H r k;rw[aN]at k ⊢;split at k
   . rename_i hv;rw[mZ h _ _ _ hv];exact ef h _ _ _ k
   . cases k
 | seq x y ihx ihy=>
   intro fr H r k;rw[aN]at k ⊢;split at k
   . rename_i hv;rw[ihx _ _ _ hv];exact ihy _ _ _ k
   . rename_i hno;rw[ihx _ _ _ k];obtain⟨e,fr',H'⟩:=r
     cases e<;>first|rfl|exact absurd k (hno _ _)
 | cond x y z ihy ihz=>
   intro fr H r k;rw[aN]at k ⊢;split at k
   . exact ihy _ _ _ k
   . exact ihz _ _ _ k
   . cases k
 | block id x ih=>
   intro fr H r k;rw[aN]at k ⊢;split at k
   . rename_i hv;rw[ih _ _ _ hv];exact k
   . rename_i hno;rw[ih _ _ _ k];obtain⟨e,fr',H'⟩:=r
     cases e<;>first|rfl|exact absurd k (hno _ _ _)
 | loop x ih=>
   intro fr H r k;rw[aN]at k ⊢;split at k
   . rename_i hv;rw[ih _ _ _ hv];exact h.run _ _ _ _ _ k
   . rename_i hno;rw[ih _ _ _ k];obtain⟨e,fr',H'⟩:=r
     cases e<;>first|rfl|exact absurd k (hno _ _)
 | scope x ih=>
   intro fr H r k;rw[aN]at k ⊢;split at k
   . rename_i hv;rw[ih _ _ _ hv];simp only;split at k
     . exact h.run _ _ _ _ _ k
     . exact k
   . rename_i hno;rw[ih _ _ _ k];obtain⟨e,fr',H'⟩:=r
     cases e<;>first|rfl|exact absurd k (hno _ _ _)
 | b8 w x _ ih=>
   intro fr H r k;rw[aN]at k ⊢;split at k
   . rename_i hv;rw[ih _ _ _ hv];simp only;split at k
     . exact h.run _ _ _ _ _ k
     . exact k
   . rename_i hno;rw[ih _ _ _ k];obtain⟨e,fr',H'⟩:=r
     cases e<;>first|rfl|exact absurd k (hno _ _ _)
 | range x ps as bd _ _=>
   intro fr H r k;simp only[aN]at k ⊢;split at k
   . rename_i hv;split at k
     . split at k
       . rename_i hi;rw[h.ic _ _ _ _ hi];exact k
       . cases k
     . cases k
   . cases k
 |_=>intro fr H r k;exact k
theorem jF:∀(c:aC) (fr:Fr) (H:ab) (u:Mode) (r:Ex×Fr×ab×Mode),de a c fr H u=some r->de b c fr H u=some r:=by
 have plain:∀(c:aC) (fr:Fr) (H:ab) (u:Mode) (r:Ex×Fr×ab×Mode),(match aN a none c fr H with
     |some (e,fr',H')=>some (e,fr',H',u)
     |none=>none)=some r->(match aN b none c fr H with
     |some (e,fr',H')=>some (e,fr',H',u)
     |none=>none)=some r:=by
   intro c fr H u r k;split at k
   . rename_i hv;rw[bL h _ _ _ _ hv];exact k
   . cases k
 have regD:∀(ops:List ai) (fr:Fr) (H:ab) (u:Mode),dj a ops fr H u=dj b ops fr H u:=by
   intro ops
   induction ops with
   |nil=>intros;rfl
   |cons o ops ih=>intro fr H u;simp only[dj,ih]
 intro c
 induction c with
 | region ops=>
   intro fr H u r k;rw[de]at k ⊢;split at k
   . rename_i hr;rw[if_pos hr,<-regD];exact k
   . rename_i hr;rw[if_neg hr];exact plain _ _ _ _ _ k
 | seq x y ihx ihy=>
   intro fr H u r k;rw[de]at k ⊢;split at k
   . rename_i hv;rw[ihx _ _ _ _ hv];exact ihy _ _ _ _ k
   . rename_i hno;rw[ihx _ _ _ _ k];obtain⟨e,fr',H',u'⟩:=r
     cases e<;>first|rfl|exact absurd k (hno _ _ _)
 | _=>
   intro fr H u r k;simp only[de]at k ⊢;split at k
   . rename_i hv;rw[bL h _ _ _ _ hv];exact k
   . cases k
theorem jh {fi:av} {args:List AV} {H:ab} {u:Mode} {r:Out×ab×Mode} (k:lQ a fi args H u=some r):lQ b fi args H u=some r:=by
 unfold lQ at*;split at k
 . rename_i hv;rw[jF h _ _ _ _ _ hv];exact k
 . cases k
theorem eP {t1 t2:FuncId->Option av} (hs:∀f fi,t1 f=some fi->t2 f=some fi) {r:Mode×ab}:∀(ds:List ADf) (u:Mode) (H:ab),b6 t1 a ds u H=some r->b6 t2 b ds u H=some r:=by
 intro ds
 induction ds with
 |nil=>intro u H k;exact k
 | cons d ds ih=>
   intro u H k
   cases d with
   | mark id=>
     rw[b6]at k ⊢;split at k
     . exact ih _ _ k
     . cases k
   | call f args=>
     rw[b6]at k ⊢;split at k
     . rename_i hf;rw[hs _ _ hf];simp only;split at k
       . rename_i hv;rw[jh h hv];exact ih _ _ k
       . rename_i hv;rw[jh h hv];exact ih _ _ k
       . cases k
     . cases k
theorem qa {t1 t2:FuncId->Option av} (hs:∀f fi,t1 f=some fi->t2 f=some fi) {fi:av} {args:List AV} {H:ab} {r:Out×ab} (k:gj t1 a fi args H=some r):gj t2 b fi args H=some r:=by
 unfold gj at*;split at k
 . rename_i hv;rw[bL h _ _ _ _ hv];simp only;split at k
   . split at k
     . rename_i hl;rw[eP h hs _ _ _ hl];exact k
     . rename_i hl;rw[eP h hs _ _ _ hl];exact k
     . cases k
   . cases k
 . cases k
theorem wP {t1 t2:FuncId->Option av} (hs:∀f fi,t1 f=some fi->t2 f=some fi) {f:FuncId} {args:List AV} {r:PR} (k:pcA t1 a f args=some r):pcA t2 b f args=some r:=by
 unfold pcA at*;split at k
 . rename_i hf;rw[hs _ _ hf];simp only;split at k
   . exact k
   split at k
   . rename_i hc;rw[if_pos hc]
     cases hb:gj t1 a _ (args.map aE) [] with
     |none=>rw[hb,sK]at k;cases k
     |some q=>rw[hb]at k;rw[qa h hs hb];exact k
   . cases k
 . cases k
theorem yw {t1 t2:FuncId->Option av} (hs:∀f fi,t1 f=some fi->t2 f=some fi) {f:FuncId} {args:List AV} {H:ab} {r:Out×ab} (k:icA t1 a f args H=some r):icA t2 b f args H=some r:=by
 unfold icA at*;split at k
 . rename_i hf;rw[hs _ _ hf];simp only;split at k
   . cases k
   . rename_i hc;rw[if_neg hc];split at k
     . exact k
     . exact qa h hs k
 . cases k
theorem yb {id:Nat} {args:List AV} {H:ab} {r:Out×ab} (k:ylA a id args H=some r):ylA b id args H=some r:=by
 unfold ylA at*;split at k
 . split at k
   . rename_i hl;rw[if_pos hl];split at k
     . rename_i hv;rw[bL h _ _ _ _ hv];simp only;split at k
       . split at k
         . rename_i hv2;rw[bL h _ _ _ _ hv2];exact k
         . cases k
       . cases k
     . cases k
   . cases k
 . cases k
theorem wj {t1 t2:FuncId->Option av} (hs:∀f fi,t1 f=some fi->t2 f=some fi) (hl:∀f,iu t1 f=iu t2 f):CB.Le (sH t1 a) (sH t2 b):=
 ⟨fun _ _ _=>wP h hs,fun _ _ _ _=>yw h hs,fun _ _ _ _=>yb h,fun _ _ _ _ _=>bL h _ _ _ _,hl,fun f args H r k=>by
   have k:icA t1 a f args H=some r:=k;show pcA t2 b f args=none
   unfold icA at k;unfold pcA;split at k
   . rename_i fi hf;rw[hs _ _ hf];simp only;split at k
     . cases k
     . rename_i hp
       cases hcn:fi.con with
       |none=>rw[hcn]at hp;simp only[Option.isSome_none,Bool.false_or,Bool.not_eq_true]at hp;simp[hp,hcn]
       |some g=>rw[hcn]at hp;simp at hp
   . cases k⟩
theorem CZ (tab:FuncId->Option av):CB.Le (sH tab a) (sH tab b):=wj h (fun _ _ h=>h) fun _=>rfl
end mono
theorem bA (tab:FuncId->Option av):∀{n m:Nat},n<=m->CB.Le (cbs tab n) (cbs tab m)
 |0,0,_=>⟨fun _ _ _ h=>h,fun _ _ _ _ h=>h,fun _ _ _ _ h=>h,fun _ _ _ _ _ h=>h,fun _=>rfl,fun _ _ _ _ h=>(by cases h)⟩
 |0,m+1,_=>⟨fun _ _ _ h=>(by cases h),fun _ _ _ _ h=>(by cases h),fun _ _ _ _ h=>(by cases h),fun _ _ _ _ _ h=>(by cases h),fun f=>(by first|rfl|(cases ‹Nat› <;>rfl)),fun _ _ _ _ h=>(by cases h)⟩
 |n+1,0,h=>absurd h (by omega)
 |n+1,m+1,h=>CZ (bA tab (by omega)) tab
open Classical in
noncomputable def lim {α:Type} (f:Nat->Option α):Option α:=if h:∃n r,f n=some r then f h.choose else none
theorem mJ {α:Type} {f:Nat->Option α} (hm:∀n m r,n<=m->f n=some r->f m=some r) {r:α}:lim f=some r↔∃n,f n=some r:=by
 unfold lim;constructor
 . intro h;split at h
   . exact⟨_,h⟩
   . cases h
 . rintro ⟨n,hn⟩
   have h:∃n r,f n=some r:=⟨n,r,hn⟩;rw[dif_pos h];obtain⟨r',hr'⟩:=h.choose_spec;have h1:=hm _ (max n h.choose) _ (Nat.le_max_right _ _) hr';have h2:=hm _ (max n h.choose) _ (Nat.le_max_left _ _) hn;rw[h1]at h2;rw[hr',h2]
noncomputable def cbL (tab:FuncId->Option av):CB:=
 ⟨fun f args=>lim fun n=>(cbs tab n).pc f args,fun f args H=>lim fun n=>(cbs tab n).ic f args H,fun id args H=>lim fun n=>(cbs tab n).yl id args H,fun rd c fr H=>lim fun n=>(cbs tab n).run rd c fr H,iu tab⟩
section limit
variable {tab:FuncId->Option av}
theorem dM {f:FuncId} {args:List AV} {r:PR}:(cbL tab).pc f args=some r↔∃n,(cbs tab n).pc f args=some r:=mJ fun _ _ _ h=>(bA tab h).pc _ _ _
theorem ix {f:FuncId} {args:List AV} {H:ab} {r:Out×ab}:(cbL tab).ic f args H=some r↔∃n,(cbs tab n).ic f args H=some r:=mJ fun _ _ _ h=>(bA tab h).ic _ _ _ _
theorem lz {id:Nat} {args:List AV} {H:ab} {r:Out×ab}:(cbL tab).yl id args H=some r↔∃n,(cbs tab n).yl id args H=some r:=mJ fun _ _ _ h=>(bA tab h).yl _ _ _ _
theorem gF {rd:Option Nat} {c:aC} {fr:Fr} {H:ab} {r:Ex×Fr×ab}:(cbL tab).run rd c fr H=some r↔∃n,(cbs tab n).run rd c fr H=some r:=mJ fun _ _ _ h=>(bA tab h).run _ _ _ _ _
theorem eD (n:Nat) (f:FuncId):(cbs tab n).cj f=(cbL tab).cj f:=by cases n<;>rfl
theorem pW (n:Nat):CB.Le (cbs tab n) (cbL tab):=
 ⟨fun _ _ _ h=>dM.2 ⟨n,h⟩,fun _ _ _ _ h=>ix.2 ⟨n,h⟩,fun _ _ _ _ h=>lz.2 ⟨n,h⟩,fun _ _ _ _ _ h=>gF.2 ⟨n,h⟩,eD n,fun f args H r h=>by
   cases hp:(cbL tab).pc f args with
   |none=>rfl
   | some q=>
     obtain⟨m,hm⟩:=dM.1 hp;have h1:=(bA tab (Nat.le_max_left n m)).sep f args H r h;have h2:=(bA tab (Nat.le_max_right n m)).pc _ _ _ hm;rw[h1]at h2
     cases h2⟩
theorem kh {t1 t2:FuncId->Option av} (hs:∀f fi,t1 f=some fi->t2 f=some fi) (hl:∀f,iu t1 f=iu t2 f):∀n,CB.Le (cbs t1 n) (cbs t2 n)
 |0=>⟨fun _ _ _ h=>(by cases h),fun _ _ _ _ h=>(by cases h),fun _ _ _ _ h=>(by cases h),fun _ _ _ _ _ h=>(by cases h),hl,fun _ _ _ _ h=>(by cases h)⟩
 |n+1=>wj (kh hs hl n) hs hl
theorem J2 {t1 t2:FuncId->Option av} (hs:∀f fi,t1 f=some fi->t2 f=some fi) (hl:∀f,iu t1 f=iu t2 f):CB.Le (cbL t1) (cbL t2):=
 ⟨fun _ _ _ h=>by obtain⟨n,k⟩:=dM.1 h;exact dM.2 ⟨n,(kh hs hl n).pc _ _ _ k⟩,
  fun _ _ _ _ h=>by obtain⟨n,k⟩:=ix.1 h;exact ix.2 ⟨n,(kh hs hl n).ic _ _ _ _ k⟩,
  fun _ _ _ _ h=>by obtain⟨n,k⟩:=lz.1 h;exact lz.2 ⟨n,(kh hs hl n).yl _ _ _ _ k⟩,
  fun _ _ _ _ _ h=>by obtain⟨n,k⟩:=gF.1 h;exact gF.2 ⟨n,(kh hs hl n).run _ _ _ _ _ k⟩,hl,fun f args H r h=>by
   obtain⟨n,k⟩:=ix.1 h
   exact(pW n).sep f args H r ((kh hs hl n).ic _ _ _ _ k)⟩
theorem dw {f:FuncId} {args:List AV} {H:ab} {r:PR} (k:pcx (cbL tab) f args H=some r):∃n,pcx (cbs tab n) f args H=some r:=by
 unfold pcx uQ at*;split at k
 . rename_i hl;split at k
   . rename_i hv;obtain⟨n,hn⟩:=dM.1 hv;exact⟨n,by rw[eD,if_pos hl,hn];exact k⟩
   . rename_i hv;obtain⟨n,hn⟩:=dM.1 hv;exact⟨n,by rw[eD,if_pos hl,hn];exact k⟩
   . cases k
   . rename_i hv;obtain⟨n,hn⟩:=dM.1 hv;exact⟨n,by rw[eD,if_pos hl,hn];exact k⟩
   . rename_i hv;obtain⟨n,hn⟩:=dM.1 hv;exact⟨n,by rw[eD,if_pos hl,hn];exact k⟩
   . cases k
 . rename_i hl;obtain⟨n,hn⟩:=dM.1 k;exact⟨n,by rw[eD,if_neg hl];exact hn⟩
theorem qj {f:FuncId} {args:List AV} {H:ab} {r:Out×ab} (k:dS (cbL tab) f args H=some r):∃n,dS (cbs tab n) f args H=some r:=by
 unfold dS at*;split at k
 . rename_i hv;obtain⟨n,hn⟩:=dw hv;exact⟨n,by rw[hn];exact k⟩
 . rename_i hv;obtain⟨n,hn⟩:=dw hv;exact⟨n,by rw[hn];exact k⟩
 . rename_i hv;obtain⟨n,hn⟩:=dw hv;exact⟨n,by rw[hn];exact k⟩
 . rename_i hv;obtain⟨n,hn⟩:=dw hv;exact⟨n,by rw[hn];exact k⟩
 . cases k
 . split at k
   . cases k
   . rename_i hl;obtain⟨n,hn⟩:=ix.1 k;refine⟨n, ?_⟩
     have e:pcx (cbs tab n) f args H=none:=by
       unfold pcx;rw[eD,if_neg hl];exact(bA tab (Nat.le_refl n)).sep _ _ _ _ hn
     rw[e];simp only;rw[eD,if_neg hl];exact hn
theorem qd {rw:Bool} {f:FuncId} {args:List AV} {H:ab} {r:Out×ab} (k:eJ (cbL tab) rw f args H=some r):∃n,eJ (cbs tab n) rw f args H=some r:=by
 unfold eJ at*;split at k
 . rename_i hv;obtain⟨n,hn⟩:=dw hv;exact⟨n,by rw[hn];exact k⟩
 . rename_i hv;obtain⟨n,hn⟩:=dw hv;exact⟨n,by rw[hn];exact k⟩
 . rename_i hv;obtain⟨n,hn⟩:=dw hv;exact⟨n,by rw[hn];exact k⟩
 . rename_i hv;obtain⟨n,hn⟩:=dw hv;exact⟨n,by rw[hn];exact k⟩
 . cases k
 . cases k
theorem oo {rd:Option Nat} {r:Ex×Fr×ab}:∀(ops:List ai) (fr:Fr) (H:ab),aT (cbL tab) rd ops fr H=some r->∃n,aT (cbs tab n) rd ops fr H=some r:=by
 intro ops
 induction ops with
 |nil=>intro fr H k;exact⟨0,k⟩
 | cons o ops ih=>
   intro fr H k;rw[aT]at k;simp only[aT];split at k
   . rename_i hw
     (try simp only[if_pos hw])
     split at k
     . rename_i hv;(try simp only[hv]);exact ih _ _ k
     . rename_i hv
       (try simp only[hv])
       split at k
       . rename_i hc;(try simp only[hc]);exact ih _ _ k
       . rename_i hc;(try simp only[hc]);exact ih _ _ k
       . rename_i hc
         (try simp only[hc])
         split at k
         . rename_i he;obtain⟨n,hn⟩:=qj he;obtain⟨m,hm⟩:=ih _ _ k;refine⟨max n m, ?_⟩;rw[jv (bA tab (Nat.le_max_left n m)) hn];exact ef (bA tab (Nat.le_max_right n m)) _ _ _ hm
         . rename_i he;obtain⟨n,hn⟩:=qj he;exact⟨n,by rw[hn];exact k⟩
         . cases k
       . rename_i hc
         (try simp only[hc])
         split at k
         . rename_i he;obtain⟨n,hn⟩:=qd he;obtain⟨m,hm⟩:=ih _ _ k;refine⟨max n m, ?_⟩;rw[jO (bA tab (Nat.le_max_left n m)) hn];exact ef (bA tab (Nat.le_max_right n m)) _ _ _ hm
         . rename_i he;obtain⟨n,hn⟩:=qd he;exact⟨n,by rw[hn];exact k⟩
         . cases k
       . rename_i hc
         (try simp only[hc])
         split at k
         . rename_i he;obtain⟨n,hn⟩:=lz.1 he;obtain⟨m,hm⟩:=ih _ _ k;refine⟨max n m, ?_⟩;rw[(bA tab (Nat.le_max_left n m)).yl _ _ _ _ hn];exact ef (bA tab (Nat.le_max_right n m)) _ _ _ hm
         . rename_i he;obtain⟨n,hn⟩:=lz.1 he;exact⟨n,by rw[hn];exact k⟩
         . cases k
       . rename_i hc;(try simp only[hc]);exact⟨0,k⟩
       . rename_i hc
         (try simp only[hc])
         split at k
         . cases k
         . rename_i hr;(try simp only[if_neg hr]);exact ih _ _ k
       . cases k
   . rename_i hw
     (try simp only[if_neg hw])
     exact ih _ _ k
theorem Ip {o:ai} {tm:List AV} {H G:ab} {g:Nat} {v:AV×Option aj} (k:ap1 (cbL tab) H G o tm g=some v):∃n,ap1 (cbs tab n) H G o tm g=some v:=by
 unfold ap1 at*;split at k
 . rename_i hw
   (try simp only[if_pos hw])
   split at k
   . rename_i hv;(try simp only[hv]);exact⟨0,k⟩
   . rename_i hv
     (try simp only[hv])
     split at k
     . rename_i ho;(try simp only[ho]);exact⟨0,k⟩
     . rename_i ho;(try simp only[ho]);exact⟨0,k⟩
     . rename_i ho
       (try simp only[ho])
       split at k
       . rename_i hp;obtain⟨n,hn⟩:=dw hp;exact⟨n,by rw[hn];exact k⟩
       . rename_i hp;obtain⟨n,hn⟩:=dw hp;exact⟨n,by rw[hn];exact k⟩
       . rename_i hp;obtain⟨n,hn⟩:=dw hp;exact⟨n,by rw[hn];exact k⟩
       . cases k
     . rename_i ho
       (try simp only[ho])
       split at k
       . rename_i hcal
         (try simp only[hcal])
         split at k
         . rename_i hp;obtain⟨n,hn⟩:=dw hp;exact⟨n,by(try simp only[hcal,hn]);exact k⟩
         . rename_i hp;obtain⟨n,hn⟩:=dw hp;exact⟨n,by(try simp only[hcal,hn]);exact k⟩
         . rename_i hp;obtain⟨n,hn⟩:=dw hp;exact⟨n,by(try simp only[hcal,hn]);exact k⟩
         . cases k
       . cases k
     . rename_i ho
       (try simp only[ho])
       split at k
       . rename_i hp;obtain⟨n,hn⟩:=dw hp;exact⟨n,by rw[hn];exact k⟩
       . cases k
     . rename_i ho;(try simp only[ho]);exact⟨0,k⟩
     . exact⟨0,k⟩
 . rename_i hw
   (try simp only[if_neg hw])
   exact⟨0,k⟩
theorem HR {H:ab} {r:List AV×List aj}:∀(ops:List ai) (tm:List AV) (e:List aj),js (cbL tab) H ops tm e=some r->∃n,js (cbs tab n) H ops tm e=some r:=by
 intro ops
 induction ops with
 |nil=>intro tm e k;exact⟨0,k⟩
 | cons o ops ih=>
   intro tm e k;rw[js]at k;split at k
   . rename_i hv;obtain⟨n,hn⟩:=Ip hv;obtain⟨m,hm⟩:=ih _ _ k;refine⟨max n m, ?_⟩;rw[js,wX (bA tab (Nat.le_max_left n m)) hn];exact mZ (bA tab (Nat.le_max_right n m)) _ _ _ hm
   . cases k
theorem gK {rd:Option Nat}:∀(c:aC) (fr:Fr) (H:ab) (r:Ex×Fr×ab),aN (cbL tab) rd c fr H=some r->∃n,aN (cbs tab n) rd c fr H=some r:=by
 intro c
 induction c with
 |region ops=>intro fr H r k;exact oo _ _ _ k
 | drawn pre tail=>
   intro fr H r k;rw[aN]at k;split at k
   . rename_i hv;obtain⟨n,hn⟩:=HR _ _ _ hv;obtain⟨m,hm⟩:=oo _ _ _ k;refine⟨max n m, ?_⟩;rw[aN,mZ (bA tab (Nat.le_max_left n m)) _ _ _ hn];exact ef (bA tab (Nat.le_max_right n m)) _ _ _ hm
   . cases k
 | seq x y ihx ihy=>
   intro fr H r k;rw[aN]at k;split at k
   . rename_i hv;obtain⟨n,hn⟩:=ihx _ _ _ hv;obtain⟨m,hm⟩:=ihy _ _ _ k;refine⟨max n m, ?_⟩;rw[aN,bL (bA tab (Nat.le_max_left n m)) _ _ _ _ hn];exact bL (bA tab (Nat.le_max_right n m)) _ _ _ _ hm
   . rename_i hno;obtain⟨n,hn⟩:=ihx _ _ _ k;refine⟨n, ?_⟩;rw[aN,hn];obtain⟨e,fr',H'⟩:=r
     cases e<;>first|rfl|exact absurd k (hno _ _)
 | cond x y z ihy ihz=>
   intro fr H r k;rw[aN]at k;simp only[aN];split at k
   . rename_i he;(try simp only[he]);exact ihy _ _ _ k
   . rename_i he;(try simp only[he]);exact ihz _ _ _ k
   . cases k
 | block id x ih=>
   intro fr H r k;rw[aN]at k;split at k
   . rename_i hv;obtain⟨n,hn⟩:=ih _ _ _ hv;exact⟨n,by rw[aN,hn];exact k⟩
   . rename_i hno;obtain⟨n,hn⟩:=ih _ _ _ k;refine⟨n, ?_⟩;rw[aN,hn];obtain⟨e,fr',H'⟩:=r
     cases e<;>first|rfl|exact absurd k (hno _ _ _)
 | loop x ih=>
   intro fr H r k;rw[aN]at k;split at k
   . rename_i hv;obtain⟨n,hn⟩:=ih _ _ _ hv;obtain⟨m,hm⟩:=gF.1 k;refine⟨max n m, ?_⟩;rw[aN,bL (bA tab (Nat.le_max_left n m)) _ _ _ _ hn];exact(bA tab (Nat.le_max_right n m)).run _ _ _ _ _ hm
   . rename_i hno;obtain⟨n,hn⟩:=ih _ _ _ k;refine⟨n, ?_⟩;rw[aN,hn];obtain⟨e,fr',H'⟩:=r
     cases e<;>first|rfl|exact absurd k (hno _ _)
 | scope x ih=>
   intro fr H r k;rw[aN]at k;split at k
   . rename_i hv;obtain⟨n,hn⟩:=ih _ _ _ hv;split at k
     . rename_i hf;obtain⟨m,hm⟩:=gF.1 k;refine⟨max n m, ?_⟩;rw[aN,bL (bA tab (Nat.le_max_left n m)) _ _ _ _ hn]
       (try simp only[hf])
       exact(bA tab (Nat.le_max_right n m)).run _ _ _ _ _ hm
     . rename_i hf;refine⟨n, ?_⟩;rw[aN,hn]
       (try simp only[hf])
       exact k
   . rename_i hno;obtain⟨n,hn⟩:=ih _ _ _ k;refine⟨n, ?_⟩;rw[aN,hn];obtain⟨e,fr',H'⟩:=r
     cases e<;>first|rfl|exact absurd k (hno _ _ _)
 | b8 w x _ ih=>
   intro fr H r k;rw[aN]at k;split at k
   . rename_i hv;obtain⟨n,hn⟩:=ih _ _ _ hv;split at k
     . rename_i hf;obtain⟨m,hm⟩:=gF.1 k;refine⟨max n m, ?_⟩;rw[aN,bL (bA tab (Nat.le_max_left n m)) _ _ _ _ hn]
       (try simp only[hf])
       exact(bA tab (Nat.le_max_right n m)).run _ _ _ _ _ hm
     . rename_i hf;refine⟨n, ?_⟩;rw[aN,hn]
       (try simp only[hf])
       exact k
   . rename_i hno;obtain⟨n,hn⟩:=ih _ _ _ k;refine⟨n, ?_⟩;rw[aN,hn];obtain⟨e,fr',H'⟩:=r
     cases e<;>first|rfl|exact absurd k (hno _ _ _)
 | range x ps as bd _ _=>
   intro fr H r k;simp only[aN]at k ⊢;split at k
   . rename_i hv
     (try simp only[hv])
     split at k
     . rename_i hx
       (try simp only[hx])
       split at k
       . rename_i hi;obtain⟨n,hn⟩:=ix.1 hi;exact⟨n,by rw[hn];exact k⟩
       . cases k
     . cases k
   . cases k
 |_=>intro fr H r k;exact⟨0,k⟩
theorem zM:∀(c:aC) (fr:Fr) (H:ab) (u:Mode) (r:Ex×Fr×ab×Mode),de (cbL tab) c fr H u=some r->∃n,de (cbs tab n) c fr H u=some r:=by
 have plain:∀(c:aC) (fr:Fr) (H:ab) (u:Mode) (r:Ex×Fr×ab×Mode),(match aN (cbL tab) none c fr H with
     |some (e,fr',H')=>some (e,fr',H',u)
     |none=>none)=some r->∃n,(match aN (cbs tab n) none c fr H with
     |some (e,fr',H')=>some (e,fr',H',u)
     |none=>none)=some r:=by
   intro c fr H u r k;split at k
   . rename_i hv;obtain⟨n,hn⟩:=gK _ _ _ _ hv;exact⟨n,by rw[hn];exact k⟩
   . cases k
 have regD:∀(a b:CB) (ops:List ai) (fr:Fr) (H:ab) (u:Mode),dj a ops fr H u=dj b ops fr H u:=by
   intro a b ops
   induction ops with
   |nil=>intros;rfl
   |cons o ops ih=>intro fr H u;simp only[dj,ih]
 intro c
 induction c with
 | region ops=>
   intro fr H u r k;rw[de]at k;simp only[de];split at k
   . rename_i hr;(try simp only[if_pos hr]);exact⟨0,by rw[regD _ (cbL tab)];exact k⟩
   . rename_i hr;(try simp only[if_neg hr]);exact plain _ _ _ _ _ k
 | seq x y ihx ihy=>
   intro fr H u r k;rw[de]at k;split at k
   . rename_i hv;obtain⟨n,hn⟩:=ihx _ _ _ _ hv;obtain⟨m,hm⟩:=ihy _ _ _ _ k;refine⟨max n m, ?_⟩;rw[de,jF (bA tab (Nat.le_max_left n m)) _ _ _ _ _ hn];exact jF (bA tab (Nat.le_max_right n m)) _ _ _ _ _ hm
   . rename_i hno;obtain⟨n,hn⟩:=ihx _ _ _ _ k;refine⟨n, ?_⟩;rw[de,hn];obtain⟨e,fr',H',u'⟩:=r
     cases e<;>first|rfl|exact absurd k (hno _ _ _)
 | _=>
   intro fr H u r k;simp only[de]at k ⊢;split at k
   . rename_i hv;obtain⟨n,hn⟩:=gK _ _ _ _ hv;exact⟨n,by rw[hn];exact k⟩
   . cases k
theorem tR {fi:av} {args:List AV} {H:ab} {u:Mode} {r:Out×ab×Mode} (k:lQ (cbL tab) fi args H u=some r):∃n,lQ (cbs tab n) fi args H u=some r:=by
 unfold lQ at*;split at k
 . rename_i hv;obtain⟨n,hn⟩:=zM _ _ _ _ _ hv;exact⟨n,by rw[hn];exact k⟩
 . cases k
theorem pe {r:Mode×ab}:∀(ds:List ADf) (u:Mode) (H:ab),b6 tab (cbL tab) ds u H=some r->∃n,b6 tab (cbs tab n) ds u H=some r:=by
 intro ds
 induction ds with
 |nil=>intro u H k;exact⟨0,k⟩
 | cons d ds ih=>
   intro u H k
   cases d with
   | mark id=>
     rw[b6]at k;simp only[b6];split at k
     . rename_i ho;(try simp only[ho]);exact ih _ _ k
     . cases k
   | call f args=>
     rw[b6]at k;simp only[b6];split at k
     . rename_i hf
       (try simp only[hf])
       split at k
       . rename_i hv;obtain⟨n,hn⟩:=tR hv;obtain⟨m,hm⟩:=ih _ _ k;refine⟨max n m, ?_⟩;rw[jh (bA tab (Nat.le_max_left n m)) hn];exact eP (bA tab (Nat.le_max_right n m)) (fun _ _ h=>h) _ _ _ hm
       . rename_i hv;obtain⟨n,hn⟩:=tR hv;obtain⟨m,hm⟩:=ih _ _ k;refine⟨max n m, ?_⟩;rw[jh (bA tab (Nat.le_max_left n m)) hn];exact eP (bA tab (Nat.le_max_right n m)) (fun _ _ h=>h) _ _ _ hm
       . cases k
     . cases k
theorem tH {fi:av} {args:List AV} {H:ab} {r:Out×ab} (k:gj tab (cbL tab) fi args H=some r):∃n,gj tab (cbs tab n) fi args H=some r:=by
 unfold gj at*;split at k
 . rename_i hv;obtain⟨n,hn⟩:=gK _ _ _ _ hv;split at k
   . rename_i hu;split at k
     . rename_i hl;obtain⟨m,hm⟩:=pe _ _ _ hl;refine⟨max n m, ?_⟩;rw[bL (bA tab (Nat.le_max_left n m)) _ _ _ _ hn]
       (try simp only[hu])
       rw[eP (bA tab (Nat.le_max_right n m)) (fun _ _ h=>h) _ _ _ hm];exact k
     . rename_i hl;obtain⟨m,hm⟩:=pe _ _ _ hl;refine⟨max n m, ?_⟩;rw[bL (bA tab (Nat.le_max_left n m)) _ _ _ _ hn]
       (try simp only[hu])
       rw[eP (bA tab (Nat.le_max_right n m)) (fun _ _ h=>h) _ _ _ hm];exact k
     . cases k
   . cases k
 . cases k
theorem sc {f:FuncId} {args:List AV} {r:PR} (k:pcA tab (cbL tab) f args=some r):(cbL tab).pc f args=some r:=by
 unfold pcA at k;split at k
 . rename_i fi hf;split at k
   . rename_i g hg;refine dM.2 ⟨1, ?_⟩;show pcA tab (cbs tab 0) f args=some r
     unfold pcA;rw[hf];simp only[hg];exact k
   rename_i hg;split at k
   . rename_i hc
     cases hb:gj tab (cbL tab) fi (args.map aE) [] with
     |none=>rw[hb,sK]at k;cases k
     | some q=>
       obtain⟨n,hn⟩:=tH hb;refine dM.2 ⟨n+1, ?_⟩;show pcA tab (cbs tab n) f args=some r
       unfold pcA;rw[hf];simp only[hg,hc,if_true];rw[hn,<-hb];exact k
   . cases k
 . cases k
theorem GB {f:FuncId} {args:List AV} {H:ab} {r:Out×ab} (k:icA tab (cbL tab) f args H=some r):(cbL tab).ic f args H=some r:=by
 unfold icA at k;split at k
 . rename_i fi hf;split at k
   . cases k
   . rename_i hc;split at k
     . rename_i hg;refine ix.2 ⟨1, ?_⟩;show icA tab (cbs tab 0) f args H=some r
       unfold icA;rw[hf];simp only[hc,if_neg,Bool.false_eq_true,not_false_eq_true];rw[hg];exact k
     . rename_i hg;obtain⟨n,hn⟩:=tH k;refine ix.2 ⟨n+1, ?_⟩;show icA tab (cbs tab n) f args H=some r
       unfold icA;rw[hf];simp only[hc,if_neg,Bool.false_eq_true,not_false_eq_true];rw[hg];exact hn
 . cases k
theorem Lq {id:Nat} {args:List AV} {H:ab} {r:Out×ab} (k:ylA (cbL tab) id args H=some r):(cbL tab).yl id args H=some r:=by
 have:∃n,ylA (cbs tab n) id args H=some r:=by
   unfold ylA at k;split at k
   . rename_i hl0;split at k
     . rename_i hl;split at k
       . rename_i hv;obtain⟨n,hn⟩:=gK _ _ _ _ hv;split at k
         . rename_i hl2;split at k
           . rename_i hv2;obtain⟨m,hm⟩:=gK _ _ _ _ hv2;refine⟨max n m, ?_⟩;unfold ylA;rw[hl0];simp only[hl,if_true];rw[bL (bA tab (Nat.le_max_left n m)) _ _ _ _ hn]
             (try simp only[hl2])
             rw[bL (bA tab (Nat.le_max_right n m)) _ _ _ _ hm];exact k
           . cases k
         . cases k
       . cases k
     . cases k
   . cases k
 obtain⟨n,hn⟩:=this;exact lz.2 ⟨n+1,hn⟩
theorem HQ {rd:Option Nat} {c:aC} {fr:Fr} {H:ab} {r:Ex×Fr×ab} (k:aN (cbL tab) rd c fr H=some r):(cbL tab).run rd c fr H=some r:=by
 obtain⟨n,hn⟩:=gK _ _ _ _ k;exact gF.2 ⟨n+1,hn⟩
end limit
end Go.Am
