/- THE LIMIT OF THE INTERPRETER: what it comes to with fuel enough; it answers to its own step. No condition. -/
import Derived.Test.YtephfpdnhdpmkaaGreatDoorAmDef
set_option linter.all false
namespace Go.Am
open Go
structure CB.Le (a b:CB):Prop where
 pc:∀f args r,a.pc f args=some r->b.pc f args=some r
 ic:∀f args H r,a.ic f args H=some r->b.ic f args H=some r
 yl:∀id args H r,a.yl id args H=some r->b.yl id args H=some r
 run:∀rd c fr H r,a.run rd c fr H=some r->b.run rd c fr H=some r
 lent:∀f,a.lent f=b.lent f
 sep:∀f args H r,a.ic f args H=some r->b.pc f args=none
section mono
variable {a b:CB} (h:CB.Le a b)
include h
theorem pcx_mono {f:FuncId} {args:List AV} {H:Heap} {r:PR} (k:pcx a f args H=some r):pcx b f args H=some r:=by
 unfold pcx enterL at*
 rw[<-h.lent]
 split at k
 . rename_i hl
   rw[if_pos hl]
   split at k
   . rename_i hv;rw[h.pc _ _ _ hv];exact k
   . rename_i hv;rw[h.pc _ _ _ hv];exact k
   . cases k
   . rename_i hv;rw[h.pc _ _ _ hv];exact k
   . rename_i hv;rw[h.pc _ _ _ hv];exact k
   . cases k
 . rename_i hl
   rw[if_neg hl]
   exact h.pc _ _ _ k
theorem enterA_mono {f:FuncId} {args:List AV} {H:Heap} {r:Out×Heap} (k:enterA a f args H=some r):enterA b f args H=some r:=by
 unfold enterA at*
 split at k
 . rename_i hv;rw[pcx_mono h hv];exact k
 . rename_i hv;rw[pcx_mono h hv];exact k
 . rename_i hv;rw[pcx_mono h hv];exact k
 . rename_i hv;rw[pcx_mono h hv];exact k
 . cases k
 . split at k
   . cases k
   . rename_i hl
     have e:pcx b f args H=none:=by
       unfold pcx
       rw[<-h.lent,if_neg hl]
       exact h.sep _ _ _ _ k
     rw[e]
     simp only
     rw[<-h.lent,if_neg hl]
     exact h.ic _ _ _ _ k
theorem enterM_mono {rw:Bool} {f:FuncId} {args:List AV} {H:Heap} {r:Out×Heap} (k:enterM a rw f args H=some r):enterM b rw f args H=some r:=by
 unfold enterM at*
 split at k
 . rename_i hv;rw[pcx_mono h hv];exact k
 . rename_i hv;rw[pcx_mono h hv];exact k
 . rename_i hv;rw[pcx_mono h hv];exact k
 . rename_i hv;rw[pcx_mono h hv];exact k
 . cases k
 . cases k
theorem aregion_mono {rd:Option Nat} {r:Ex×Fr×Heap}:∀(ops:List AOper) (fr:Fr) (H:Heap),aregion a rd ops fr H=some r->aregion b rd ops fr H=some r:=by
 intro ops
 induction ops with
 |nil=>intro fr H k;exact k
 | cons o ops ih=>
   intro fr H k
   rw[aregion]at k ⊢
   split at k
   . rename_i hw
     rw[if_pos hw]
     split at k
     . exact ih _ _ k
     . split at k
       . exact ih _ _ k
       . exact ih _ _ k
       . split at k
         . rename_i hv;rw[enterA_mono h hv];exact ih _ _ k
         . rename_i hv;rw[enterA_mono h hv];exact k
         . cases k
       . split at k
         . rename_i hv;rw[enterM_mono h hv];exact ih _ _ k
         . rename_i hv;rw[enterM_mono h hv];exact k
         . cases k
       . split at k
         . rename_i hv;rw[h.yl _ _ _ _ hv];exact ih _ _ k
         . rename_i hv;rw[h.yl _ _ _ _ hv];exact k
         . cases k
       . exact k
       . split at k
         . cases k
         . rename_i hr;rw[if_neg hr];exact ih _ _ k
       . cases k
   . rename_i hw
     rw[if_neg hw]
     exact ih _ _ k
theorem ap1_mono {o:AOper} {tm:List AV} {H G:Heap} {g:Nat} {v:AV×Option AObj} (k:ap1 a H G o tm g=some v):ap1 b H G o tm g=some v:=by
 unfold ap1 at*
 split at k
 . rename_i hw
   rw[if_pos hw]
   split at k
   . exact k
   . split at k
     . exact k
     . exact k
     . split at k
       . rename_i hv;rw[pcx_mono h hv];exact k
       . rename_i hv;rw[pcx_mono h hv];exact k
       . rename_i hv;rw[pcx_mono h hv];exact k
       . cases k
     . split at k
       . split at k
         . rename_i hv;simp only[pcx_mono h hv];exact k
         . rename_i hv;simp only[pcx_mono h hv];exact k
         . rename_i hv;simp only[pcx_mono h hv];exact k
         . cases k
       . cases k
     . split at k
       . rename_i hv;rw[pcx_mono h hv];exact k
       . cases k
     . exact k
     . exact k
 . rename_i hw
   rw[if_neg hw]
   exact k
theorem apre_mono {H:Heap} {r:List AV×List AObj}:∀(ops:List AOper) (tm:List AV) (e:List AObj),apre a H ops tm e=some r->apre b H ops tm e=some r:=by
 intro ops
 induction ops with
 |nil=>intro tm e k;exact k
 | cons o ops ih=>
   intro tm e k
   rw[apre]at k ⊢
   split at k
   . rename_i hv;rw[ap1_mono h hv];exact ih _ _ k
   . cases k
theorem acode_mono {rd:Option Nat}:∀(c:ACode) (fr:Fr) (H:Heap) (r:Ex×Fr×Heap),acode a rd c fr H=some r->acode b rd c fr H=some r:=by
 intro c
 induction c with
 |region ops=>intro fr H r k;exact aregion_mono h _ _ _ k
 | drawn pre tail=>
   intro fr H r k
   rw[acode]at k ⊢
   split at k
   . rename_i hv;rw[apre_mono h _ _ _ hv];exact aregion_mono h _ _ _ k
   . cases k
 | seq x y ihx ihy=>
   intro fr H r k
   rw[acode]at k ⊢
   split at k
   . rename_i hv;rw[ihx _ _ _ hv];exact ihy _ _ _ k
   . rename_i hno
     rw[ihx _ _ _ k]
     obtain⟨e,fr',H'⟩:=r
     cases e<;>first|rfl|exact absurd k (hno _ _)
 | cond x y z ihy ihz=>
   intro fr H r k
   rw[acode]at k ⊢
   split at k
   . exact ihy _ _ _ k
   . exact ihz _ _ _ k
   . cases k
 | block id x ih=>
   intro fr H r k
   rw[acode]at k ⊢
   split at k
   . rename_i hv;rw[ih _ _ _ hv];exact k
   . rename_i hno
     rw[ih _ _ _ k]
     obtain⟨e,fr',H'⟩:=r
     cases e<;>first|rfl|exact absurd k (hno _ _ _)
 | loop x ih=>
   intro fr H r k
   rw[acode]at k ⊢
   split at k
   . rename_i hv;rw[ih _ _ _ hv];exact h.run _ _ _ _ _ k
   . rename_i hno
     rw[ih _ _ _ k]
     obtain⟨e,fr',H'⟩:=r
     cases e<;>first|rfl|exact absurd k (hno _ _)
 | scope x ih=>
   intro fr H r k
   rw[acode]at k ⊢
   split at k
   . rename_i hv
     rw[ih _ _ _ hv]
     simp only
     split at k
     . exact h.run _ _ _ _ _ k
     . exact k
   . rename_i hno
     rw[ih _ _ _ k]
     obtain⟨e,fr',H'⟩:=r
     cases e<;>first|rfl|exact absurd k (hno _ _ _)
 | inscope w x _ ih=>
   intro fr H r k
   rw[acode]at k ⊢
   split at k
   . rename_i hv
     rw[ih _ _ _ hv]
     simp only
     split at k
     . exact h.run _ _ _ _ _ k
     . exact k
   . rename_i hno
     rw[ih _ _ _ k]
     obtain⟨e,fr',H'⟩:=r
     cases e<;>first|rfl|exact absurd k (hno _ _ _)
 | range x ps as bd _ _=>
   intro fr H r k
   simp only[acode]at k ⊢
   split at k
   . rename_i hv
     split at k
     . split at k
       . rename_i hi
         rw[h.ic _ _ _ _ hi]
         exact k
       . cases k
     . cases k
   . cases k
 |_=>intro fr H r k;exact k
theorem acodeD_mono:∀(c:ACode) (fr:Fr) (H:Heap) (u:Mode) (r:Ex×Fr×Heap×Mode),acodeD a c fr H u=some r->acodeD b c fr H u=some r:=by
 have plain:∀(c:ACode) (fr:Fr) (H:Heap) (u:Mode) (r:Ex×Fr×Heap×Mode),(match acode a none c fr H with
     |some (e,fr',H')=>some (e,fr',H',u)
     |none=>none)=some r->(match acode b none c fr H with
     |some (e,fr',H')=>some (e,fr',H',u)
     |none=>none)=some r:=by
   intro c fr H u r k
   split at k
   . rename_i hv;rw[acode_mono h _ _ _ _ hv];exact k
   . cases k
 have regD:∀(ops:List AOper) (fr:Fr) (H:Heap) (u:Mode),aregionD a ops fr H u=aregionD b ops fr H u:=by
   intro ops
   induction ops with
   |nil=>intros;rfl
   |cons o ops ih=>intro fr H u;simp only[aregionD,ih]
 intro c
 induction c with
 | region ops=>
   intro fr H u r k
   rw[acodeD]at k ⊢
   split at k
   . rename_i hr;rw[if_pos hr,<-regD];exact k
   . rename_i hr;rw[if_neg hr];exact plain _ _ _ _ _ k
 | seq x y ihx ihy=>
   intro fr H u r k
   rw[acodeD]at k ⊢
   split at k
   . rename_i hv;rw[ihx _ _ _ _ hv];exact ihy _ _ _ _ k
   . rename_i hno
     rw[ihx _ _ _ _ k]
     obtain⟨e,fr',H',u'⟩:=r
     cases e<;>first|rfl|exact absurd k (hno _ _ _)
 | _=>
   intro fr H u r k
   simp only[acodeD]at k ⊢
   split at k
   . rename_i hv;rw[acode_mono h _ _ _ _ hv];exact k
   . cases k
theorem bodyD_mono {fi:AFun} {args:List AV} {H:Heap} {u:Mode} {r:Out×Heap×Mode} (k:bodyD a fi args H u=some r):bodyD b fi args H u=some r:=by
 unfold bodyD at*
 split at k
 . rename_i hv;rw[acodeD_mono h _ _ _ _ _ hv];exact k
 . cases k
theorem leaveA_mono {t1 t2:FuncId->Option AFun} (hs:∀f fi,t1 f=some fi->t2 f=some fi) {r:Mode×Heap}:∀(ds:List ADf) (u:Mode) (H:Heap),leaveA t1 a ds u H=some r->leaveA t2 b ds u H=some r:=by
 intro ds
 induction ds with
 |nil=>intro u H k;exact k
 | cons d ds ih=>
   intro u H k
   cases d with
   | mark id=>
     rw[leaveA]at k ⊢
     split at k
     . exact ih _ _ k
     . cases k
   | call f args=>
     rw[leaveA]at k ⊢
     split at k
     . rename_i hf
       rw[hs _ _ hf]
       simp only
       split at k
       . rename_i hv;rw[bodyD_mono h hv];exact ih _ _ k
       . rename_i hv;rw[bodyD_mono h hv];exact ih _ _ k
       . cases k
     . cases k
theorem bodyA_mono {t1 t2:FuncId->Option AFun} (hs:∀f fi,t1 f=some fi->t2 f=some fi) {fi:AFun} {args:List AV} {H:Heap} {r:Out×Heap} (k:bodyA t1 a fi args H=some r):bodyA t2 b fi args H=some r:=by
 unfold bodyA at*
 split at k
 . rename_i hv
   rw[acode_mono h _ _ _ _ hv]
   simp only
   split at k
   . split at k
     . rename_i hl;rw[leaveA_mono h hs _ _ _ hl];exact k
     . rename_i hl;rw[leaveA_mono h hs _ _ _ hl];exact k
     . cases k
   . cases k
 . cases k
theorem pcA_mono {t1 t2:FuncId->Option AFun} (hs:∀f fi,t1 f=some fi->t2 f=some fi) {f:FuncId} {args:List AV} {r:PR} (k:pcA t1 a f args=some r):pcA t2 b f args=some r:=by
 unfold pcA at*
 split at k
 . rename_i hf
   rw[hs _ _ hf]
   simp only
   split at k
   . exact k
   split at k
   . rename_i hc
     rw[if_pos hc]
     cases hb:bodyA t1 a _ (args.map lend) [] with
     |none=>rw[hb,outM_none]at k;cases k
     |some q=>rw[hb]at k;rw[bodyA_mono h hs hb];exact k
   . cases k
 . cases k
theorem icA_mono {t1 t2:FuncId->Option AFun} (hs:∀f fi,t1 f=some fi->t2 f=some fi) {f:FuncId} {args:List AV} {H:Heap} {r:Out×Heap} (k:icA t1 a f args H=some r):icA t2 b f args H=some r:=by
 unfold icA at*
 split at k
 . rename_i hf
   rw[hs _ _ hf]
   simp only
   split at k
   . cases k
   . rename_i hc
     rw[if_neg hc]
     split at k
     . exact k
     . exact bodyA_mono h hs k
 . cases k
theorem ylA_mono {id:Nat} {args:List AV} {H:Heap} {r:Out×Heap} (k:ylA a id args H=some r):ylA b id args H=some r:=by
 unfold ylA at*
 split at k
 . split at k
   . rename_i hl
     rw[if_pos hl]
     split at k
     . rename_i hv
       rw[acode_mono h _ _ _ _ hv]
       simp only
       split at k
       . split at k
         . rename_i hv2;rw[acode_mono h _ _ _ _ hv2];exact k
         . cases k
       . cases k
     . cases k
   . cases k
 . cases k
theorem step_sub {t1 t2:FuncId->Option AFun} (hs:∀f fi,t1 f=some fi->t2 f=some fi) (hl:∀f,lentA t1 f=lentA t2 f):CB.Le (stepC t1 a) (stepC t2 b):=
 ⟨fun _ _ _=>pcA_mono h hs,fun _ _ _ _=>icA_mono h hs,fun _ _ _ _=>ylA_mono h,fun _ _ _ _ _=>acode_mono h _ _ _ _,hl,fun f args H r k=>by
   have k:icA t1 a f args H=some r:=k
   show pcA t2 b f args=none
   unfold icA at k
   unfold pcA
   split at k
   . rename_i fi hf
     rw[hs _ _ hf]
     simp only
     split at k
     . cases k
     . rename_i hp
       cases hcn:fi.con with
       |none=>rw[hcn]at hp;simp only[Option.isSome_none,Bool.false_or,Bool.not_eq_true]at hp;simp[hp,hcn]
       |some g=>rw[hcn]at hp;simp at hp
   . cases k⟩
theorem step_mono (tab:FuncId->Option AFun):CB.Le (stepC tab a) (stepC tab b):=step_sub h (fun _ _ h=>h) fun _=>rfl
end mono
theorem cbs_le (tab:FuncId->Option AFun):∀{n m:Nat},n<=m->CB.Le (cbs tab n) (cbs tab m)
 |0,0,_=>⟨fun _ _ _ h=>h,fun _ _ _ _ h=>h,fun _ _ _ _ h=>h,fun _ _ _ _ _ h=>h,fun _=>rfl,fun _ _ _ _ h=>(by cases h)⟩
 |0,m+1,_=>⟨fun _ _ _ h=>(by cases h),fun _ _ _ _ h=>(by cases h),fun _ _ _ _ h=>(by cases h),fun _ _ _ _ _ h=>(by cases h),fun f=>(by first|rfl|(cases ‹Nat› <;>rfl)),fun _ _ _ _ h=>(by cases h)⟩
 |n+1,0,h=>absurd h (by omega)
 |n+1,m+1,h=>step_mono (cbs_le tab (by omega)) tab
open Classical in
noncomputable def lim {α:Type} (f:Nat->Option α):Option α:=if h:∃n r,f n=some r then f h.choose else none
theorem lim_some {α:Type} {f:Nat->Option α} (hm:∀n m r,n<=m->f n=some r->f m=some r) {r:α}:lim f=some r↔∃n,f n=some r:=by
 unfold lim
 constructor
 . intro h
   split at h
   . exact⟨_,h⟩
   . cases h
 . rintro ⟨n,hn⟩
   have h:∃n r,f n=some r:=⟨n,r,hn⟩
   rw[dif_pos h]
   obtain⟨r',hr'⟩:=h.choose_spec
   have h1:=hm _ (max n h.choose) _ (Nat.le_max_right _ _) hr'
   have h2:=hm _ (max n h.choose) _ (Nat.le_max_left _ _) hn
   rw[h1]at h2
   rw[hr',h2]
noncomputable def cbL (tab:FuncId->Option AFun):CB:=
 ⟨fun f args=>lim fun n=>(cbs tab n).pc f args,fun f args H=>lim fun n=>(cbs tab n).ic f args H,fun id args H=>lim fun n=>(cbs tab n).yl id args H,fun rd c fr H=>lim fun n=>(cbs tab n).run rd c fr H,lentA tab⟩
section limit
variable {tab:FuncId->Option AFun}
theorem cbL_pc {f:FuncId} {args:List AV} {r:PR}:(cbL tab).pc f args=some r↔∃n,(cbs tab n).pc f args=some r:=lim_some fun _ _ _ h=>(cbs_le tab h).pc _ _ _
theorem cbL_ic {f:FuncId} {args:List AV} {H:Heap} {r:Out×Heap}:(cbL tab).ic f args H=some r↔∃n,(cbs tab n).ic f args H=some r:=lim_some fun _ _ _ h=>(cbs_le tab h).ic _ _ _ _
theorem cbL_yl {id:Nat} {args:List AV} {H:Heap} {r:Out×Heap}:(cbL tab).yl id args H=some r↔∃n,(cbs tab n).yl id args H=some r:=lim_some fun _ _ _ h=>(cbs_le tab h).yl _ _ _ _
theorem cbL_run {rd:Option Nat} {c:ACode} {fr:Fr} {H:Heap} {r:Ex×Fr×Heap}:(cbL tab).run rd c fr H=some r↔∃n,(cbs tab n).run rd c fr H=some r:=lim_some fun _ _ _ h=>(cbs_le tab h).run _ _ _ _ _
theorem cbs_lent (n:Nat) (f:FuncId):(cbs tab n).lent f=(cbL tab).lent f:=by cases n<;>rfl
theorem cbs_le_cbL (n:Nat):CB.Le (cbs tab n) (cbL tab):=
 ⟨fun _ _ _ h=>cbL_pc.2 ⟨n,h⟩,fun _ _ _ _ h=>cbL_ic.2 ⟨n,h⟩,fun _ _ _ _ h=>cbL_yl.2 ⟨n,h⟩,fun _ _ _ _ _ h=>cbL_run.2 ⟨n,h⟩,cbs_lent n,fun f args H r h=>by
   cases hp:(cbL tab).pc f args with
   |none=>rfl
   | some q=>
     obtain⟨m,hm⟩:=cbL_pc.1 hp
     have h1:=(cbs_le tab (Nat.le_max_left n m)).sep f args H r h
     have h2:=(cbs_le tab (Nat.le_max_right n m)).pc _ _ _ hm
     rw[h1]at h2
     cases h2⟩
theorem cbs_sub {t1 t2:FuncId->Option AFun} (hs:∀f fi,t1 f=some fi->t2 f=some fi) (hl:∀f,lentA t1 f=lentA t2 f):∀n,CB.Le (cbs t1 n) (cbs t2 n)
 |0=>⟨fun _ _ _ h=>(by cases h),fun _ _ _ _ h=>(by cases h),fun _ _ _ _ h=>(by cases h),fun _ _ _ _ _ h=>(by cases h),hl,fun _ _ _ _ h=>(by cases h)⟩
 |n+1=>step_sub (cbs_sub hs hl n) hs hl
theorem cbL_sub {t1 t2:FuncId->Option AFun} (hs:∀f fi,t1 f=some fi->t2 f=some fi) (hl:∀f,lentA t1 f=lentA t2 f):CB.Le (cbL t1) (cbL t2):=
 ⟨fun _ _ _ h=>by obtain⟨n,k⟩:=cbL_pc.1 h;exact cbL_pc.2 ⟨n,(cbs_sub hs hl n).pc _ _ _ k⟩,
  fun _ _ _ _ h=>by obtain⟨n,k⟩:=cbL_ic.1 h;exact cbL_ic.2 ⟨n,(cbs_sub hs hl n).ic _ _ _ _ k⟩,
  fun _ _ _ _ h=>by obtain⟨n,k⟩:=cbL_yl.1 h;exact cbL_yl.2 ⟨n,(cbs_sub hs hl n).yl _ _ _ _ k⟩,
  fun _ _ _ _ _ h=>by obtain⟨n,k⟩:=cbL_run.1 h;exact cbL_run.2 ⟨n,(cbs_sub hs hl n).run _ _ _ _ _ k⟩,hl,fun f args H r h=>by
   obtain⟨n,k⟩:=cbL_ic.1 h
   exact(cbs_le_cbL n).sep f args H r ((cbs_sub hs hl n).ic _ _ _ _ k)⟩
theorem pcx_fin {f:FuncId} {args:List AV} {H:Heap} {r:PR} (k:pcx (cbL tab) f args H=some r):∃n,pcx (cbs tab n) f args H=some r:=by
 unfold pcx enterL at*
 split at k
 . rename_i hl
   split at k
   . rename_i hv;obtain⟨n,hn⟩:=cbL_pc.1 hv;exact⟨n,by rw[cbs_lent,if_pos hl,hn];exact k⟩
   . rename_i hv;obtain⟨n,hn⟩:=cbL_pc.1 hv;exact⟨n,by rw[cbs_lent,if_pos hl,hn];exact k⟩
   . cases k
   . rename_i hv;obtain⟨n,hn⟩:=cbL_pc.1 hv;exact⟨n,by rw[cbs_lent,if_pos hl,hn];exact k⟩
   . rename_i hv;obtain⟨n,hn⟩:=cbL_pc.1 hv;exact⟨n,by rw[cbs_lent,if_pos hl,hn];exact k⟩
   . cases k
 . rename_i hl
   obtain⟨n,hn⟩:=cbL_pc.1 k
   exact⟨n,by rw[cbs_lent,if_neg hl];exact hn⟩
theorem enterA_fin {f:FuncId} {args:List AV} {H:Heap} {r:Out×Heap} (k:enterA (cbL tab) f args H=some r):∃n,enterA (cbs tab n) f args H=some r:=by
 unfold enterA at*
 split at k
 . rename_i hv;obtain⟨n,hn⟩:=pcx_fin hv;exact⟨n,by rw[hn];exact k⟩
 . rename_i hv;obtain⟨n,hn⟩:=pcx_fin hv;exact⟨n,by rw[hn];exact k⟩
 . rename_i hv;obtain⟨n,hn⟩:=pcx_fin hv;exact⟨n,by rw[hn];exact k⟩
 . rename_i hv;obtain⟨n,hn⟩:=pcx_fin hv;exact⟨n,by rw[hn];exact k⟩
 . cases k
 . split at k
   . cases k
   . rename_i hl
     obtain⟨n,hn⟩:=cbL_ic.1 k
     refine⟨n, ?_⟩
     have e:pcx (cbs tab n) f args H=none:=by
       unfold pcx
       rw[cbs_lent,if_neg hl]
       exact(cbs_le tab (Nat.le_refl n)).sep _ _ _ _ hn
     rw[e]
     simp only
     rw[cbs_lent,if_neg hl]
     exact hn
theorem enterM_fin {rw:Bool} {f:FuncId} {args:List AV} {H:Heap} {r:Out×Heap} (k:enterM (cbL tab) rw f args H=some r):∃n,enterM (cbs tab n) rw f args H=some r:=by
 unfold enterM at*
 split at k
 . rename_i hv;obtain⟨n,hn⟩:=pcx_fin hv;exact⟨n,by rw[hn];exact k⟩
 . rename_i hv;obtain⟨n,hn⟩:=pcx_fin hv;exact⟨n,by rw[hn];exact k⟩
 . rename_i hv;obtain⟨n,hn⟩:=pcx_fin hv;exact⟨n,by rw[hn];exact k⟩
 . rename_i hv;obtain⟨n,hn⟩:=pcx_fin hv;exact⟨n,by rw[hn];exact k⟩
 . cases k
 . cases k
theorem aregion_fin {rd:Option Nat} {r:Ex×Fr×Heap}:∀(ops:List AOper) (fr:Fr) (H:Heap),aregion (cbL tab) rd ops fr H=some r->∃n,aregion (cbs tab n) rd ops fr H=some r:=by
 intro ops
 induction ops with
 |nil=>intro fr H k;exact⟨0,k⟩
 | cons o ops ih=>
   intro fr H k
   rw[aregion]at k
   simp only[aregion]
   split at k
   . rename_i hw
     (try simp only[if_pos hw])
     split at k
     . rename_i hv;(try simp only[hv]);exact ih _ _ k
     . rename_i hv
       (try simp only[hv])
       split at k
       . rename_i hc;(try simp only[hc]);exact ih _ _ k
       . rename_i hc;(try simp only[hc]);exact ih _ _ k
       . rename_i hc
         (try simp only[hc])
         split at k
         . rename_i he
           obtain⟨n,hn⟩:=enterA_fin he
           obtain⟨m,hm⟩:=ih _ _ k
           refine⟨max n m, ?_⟩
           rw[enterA_mono (cbs_le tab (Nat.le_max_left n m)) hn]
           exact aregion_mono (cbs_le tab (Nat.le_max_right n m)) _ _ _ hm
         . rename_i he
           obtain⟨n,hn⟩:=enterA_fin he
           exact⟨n,by rw[hn];exact k⟩
         . cases k
       . rename_i hc
         (try simp only[hc])
         split at k
         . rename_i he
           obtain⟨n,hn⟩:=enterM_fin he
           obtain⟨m,hm⟩:=ih _ _ k
           refine⟨max n m, ?_⟩
           rw[enterM_mono (cbs_le tab (Nat.le_max_left n m)) hn]
           exact aregion_mono (cbs_le tab (Nat.le_max_right n m)) _ _ _ hm
         . rename_i he
           obtain⟨n,hn⟩:=enterM_fin he
           exact⟨n,by rw[hn];exact k⟩
         . cases k
       . rename_i hc
         (try simp only[hc])
         split at k
         . rename_i he
           obtain⟨n,hn⟩:=cbL_yl.1 he
           obtain⟨m,hm⟩:=ih _ _ k
           refine⟨max n m, ?_⟩
           rw[(cbs_le tab (Nat.le_max_left n m)).yl _ _ _ _ hn]
           exact aregion_mono (cbs_le tab (Nat.le_max_right n m)) _ _ _ hm
         . rename_i he
           obtain⟨n,hn⟩:=cbL_yl.1 he
           exact⟨n,by rw[hn];exact k⟩
         . cases k
       . rename_i hc;(try simp only[hc]);exact⟨0,k⟩
       . rename_i hc
         (try simp only[hc])
         split at k
         . cases k
         . rename_i hr;(try simp only[if_neg hr]);exact ih _ _ k
       . cases k
   . rename_i hw
     (try simp only[if_neg hw])
     exact ih _ _ k
theorem ap1_fin {o:AOper} {tm:List AV} {H G:Heap} {g:Nat} {v:AV×Option AObj} (k:ap1 (cbL tab) H G o tm g=some v):∃n,ap1 (cbs tab n) H G o tm g=some v:=by
 unfold ap1 at*
 split at k
 . rename_i hw
   (try simp only[if_pos hw])
   split at k
   . rename_i hv;(try simp only[hv]);exact⟨0,k⟩
   . rename_i hv
     (try simp only[hv])
     split at k
     . rename_i ho;(try simp only[ho]);exact⟨0,k⟩
     . rename_i ho;(try simp only[ho]);exact⟨0,k⟩
     . rename_i ho
       (try simp only[ho])
       split at k
       . rename_i hp;obtain⟨n,hn⟩:=pcx_fin hp;exact⟨n,by rw[hn];exact k⟩
       . rename_i hp;obtain⟨n,hn⟩:=pcx_fin hp;exact⟨n,by rw[hn];exact k⟩
       . rename_i hp;obtain⟨n,hn⟩:=pcx_fin hp;exact⟨n,by rw[hn];exact k⟩
       . cases k
     . rename_i ho
       (try simp only[ho])
       split at k
       . rename_i hcal
         (try simp only[hcal])
         split at k
         . rename_i hp;obtain⟨n,hn⟩:=pcx_fin hp;exact⟨n,by(try simp only[hcal,hn]);exact k⟩
         . rename_i hp;obtain⟨n,hn⟩:=pcx_fin hp;exact⟨n,by(try simp only[hcal,hn]);exact k⟩
         . rename_i hp;obtain⟨n,hn⟩:=pcx_fin hp;exact⟨n,by(try simp only[hcal,hn]);exact k⟩
         . cases k
       . cases k
     . rename_i ho
       (try simp only[ho])
       split at k
       . rename_i hp;obtain⟨n,hn⟩:=pcx_fin hp;exact⟨n,by rw[hn];exact k⟩
       . cases k
     . rename_i ho;(try simp only[ho]);exact⟨0,k⟩
     . exact⟨0,k⟩
 . rename_i hw
   (try simp only[if_neg hw])
   exact⟨0,k⟩
theorem apre_fin {H:Heap} {r:List AV×List AObj}:∀(ops:List AOper) (tm:List AV) (e:List AObj),apre (cbL tab) H ops tm e=some r->∃n,apre (cbs tab n) H ops tm e=some r:=by
 intro ops
 induction ops with
 |nil=>intro tm e k;exact⟨0,k⟩
 | cons o ops ih=>
   intro tm e k
   rw[apre]at k
   split at k
   . rename_i hv
     obtain⟨n,hn⟩:=ap1_fin hv
     obtain⟨m,hm⟩:=ih _ _ k
     refine⟨max n m, ?_⟩
     rw[apre,ap1_mono (cbs_le tab (Nat.le_max_left n m)) hn]
     exact apre_mono (cbs_le tab (Nat.le_max_right n m)) _ _ _ hm
   . cases k
theorem acode_fin {rd:Option Nat}:∀(c:ACode) (fr:Fr) (H:Heap) (r:Ex×Fr×Heap),acode (cbL tab) rd c fr H=some r->∃n,acode (cbs tab n) rd c fr H=some r:=by
 intro c
 induction c with
 |region ops=>intro fr H r k;exact aregion_fin _ _ _ k
 | drawn pre tail=>
   intro fr H r k
   rw[acode]at k
   split at k
   . rename_i hv
     obtain⟨n,hn⟩:=apre_fin _ _ _ hv
     obtain⟨m,hm⟩:=aregion_fin _ _ _ k
     refine⟨max n m, ?_⟩
     rw[acode,apre_mono (cbs_le tab (Nat.le_max_left n m)) _ _ _ hn]
     exact aregion_mono (cbs_le tab (Nat.le_max_right n m)) _ _ _ hm
   . cases k
 | seq x y ihx ihy=>
   intro fr H r k
   rw[acode]at k
   split at k
   . rename_i hv
     obtain⟨n,hn⟩:=ihx _ _ _ hv
     obtain⟨m,hm⟩:=ihy _ _ _ k
     refine⟨max n m, ?_⟩
     rw[acode,acode_mono (cbs_le tab (Nat.le_max_left n m)) _ _ _ _ hn]
     exact acode_mono (cbs_le tab (Nat.le_max_right n m)) _ _ _ _ hm
   . rename_i hno
     obtain⟨n,hn⟩:=ihx _ _ _ k
     refine⟨n, ?_⟩
     rw[acode,hn]
     obtain⟨e,fr',H'⟩:=r
     cases e<;>first|rfl|exact absurd k (hno _ _)
 | cond x y z ihy ihz=>
   intro fr H r k
   rw[acode]at k
   simp only[acode]
   split at k
   . rename_i he;(try simp only[he]);exact ihy _ _ _ k
   . rename_i he;(try simp only[he]);exact ihz _ _ _ k
   . cases k
 | block id x ih=>
   intro fr H r k
   rw[acode]at k
   split at k
   . rename_i hv
     obtain⟨n,hn⟩:=ih _ _ _ hv
     exact⟨n,by rw[acode,hn];exact k⟩
   . rename_i hno
     obtain⟨n,hn⟩:=ih _ _ _ k
     refine⟨n, ?_⟩
     rw[acode,hn]
     obtain⟨e,fr',H'⟩:=r
     cases e<;>first|rfl|exact absurd k (hno _ _ _)
 | loop x ih=>
   intro fr H r k
   rw[acode]at k
   split at k
   . rename_i hv
     obtain⟨n,hn⟩:=ih _ _ _ hv
     obtain⟨m,hm⟩:=cbL_run.1 k
     refine⟨max n m, ?_⟩
     rw[acode,acode_mono (cbs_le tab (Nat.le_max_left n m)) _ _ _ _ hn]
     exact(cbs_le tab (Nat.le_max_right n m)).run _ _ _ _ _ hm
   . rename_i hno
     obtain⟨n,hn⟩:=ih _ _ _ k
     refine⟨n, ?_⟩
     rw[acode,hn]
     obtain⟨e,fr',H'⟩:=r
     cases e<;>first|rfl|exact absurd k (hno _ _)
 | scope x ih=>
   intro fr H r k
   rw[acode]at k
   split at k
   . rename_i hv
     obtain⟨n,hn⟩:=ih _ _ _ hv
     split at k
     . rename_i hf
       obtain⟨m,hm⟩:=cbL_run.1 k
       refine⟨max n m, ?_⟩
       rw[acode,acode_mono (cbs_le tab (Nat.le_max_left n m)) _ _ _ _ hn]
       (try simp only[hf])
       exact(cbs_le tab (Nat.le_max_right n m)).run _ _ _ _ _ hm
     . rename_i hf
       refine⟨n, ?_⟩
       rw[acode,hn]
       (try simp only[hf])
       exact k
   . rename_i hno
     obtain⟨n,hn⟩:=ih _ _ _ k
     refine⟨n, ?_⟩
     rw[acode,hn]
     obtain⟨e,fr',H'⟩:=r
     cases e<;>first|rfl|exact absurd k (hno _ _ _)
 | inscope w x _ ih=>
   intro fr H r k
   rw[acode]at k
   split at k
   . rename_i hv
     obtain⟨n,hn⟩:=ih _ _ _ hv
     split at k
     . rename_i hf
       obtain⟨m,hm⟩:=cbL_run.1 k
       refine⟨max n m, ?_⟩
       rw[acode,acode_mono (cbs_le tab (Nat.le_max_left n m)) _ _ _ _ hn]
       (try simp only[hf])
       exact(cbs_le tab (Nat.le_max_right n m)).run _ _ _ _ _ hm
     . rename_i hf
       refine⟨n, ?_⟩
       rw[acode,hn]
       (try simp only[hf])
       exact k
   . rename_i hno
     obtain⟨n,hn⟩:=ih _ _ _ k
     refine⟨n, ?_⟩
     rw[acode,hn]
     obtain⟨e,fr',H'⟩:=r
     cases e<;>first|rfl|exact absurd k (hno _ _ _)
 | range x ps as bd _ _=>
   intro fr H r k
   simp only[acode]at k ⊢
   split at k
   . rename_i hv
     (try simp only[hv])
     split at k
     . rename_i hx
       (try simp only[hx])
       split at k
       . rename_i hi
         obtain⟨n,hn⟩:=cbL_ic.1 hi
         exact⟨n,by rw[hn];exact k⟩
       . cases k
     . cases k
   . cases k
 |_=>intro fr H r k;exact⟨0,k⟩
theorem acodeD_fin:∀(c:ACode) (fr:Fr) (H:Heap) (u:Mode) (r:Ex×Fr×Heap×Mode),acodeD (cbL tab) c fr H u=some r->∃n,acodeD (cbs tab n) c fr H u=some r:=by
 have plain:∀(c:ACode) (fr:Fr) (H:Heap) (u:Mode) (r:Ex×Fr×Heap×Mode),(match acode (cbL tab) none c fr H with
     |some (e,fr',H')=>some (e,fr',H',u)
     |none=>none)=some r->∃n,(match acode (cbs tab n) none c fr H with
     |some (e,fr',H')=>some (e,fr',H',u)
     |none=>none)=some r:=by
   intro c fr H u r k
   split at k
   . rename_i hv;obtain⟨n,hn⟩:=acode_fin _ _ _ _ hv;exact⟨n,by rw[hn];exact k⟩
   . cases k
 have regD:∀(a b:CB) (ops:List AOper) (fr:Fr) (H:Heap) (u:Mode),aregionD a ops fr H u=aregionD b ops fr H u:=by
   intro a b ops
   induction ops with
   |nil=>intros;rfl
   |cons o ops ih=>intro fr H u;simp only[aregionD,ih]
 intro c
 induction c with
 | region ops=>
   intro fr H u r k
   rw[acodeD]at k
   simp only[acodeD]
   split at k
   . rename_i hr;(try simp only[if_pos hr]);exact⟨0,by rw[regD _ (cbL tab)];exact k⟩
   . rename_i hr;(try simp only[if_neg hr]);exact plain _ _ _ _ _ k
 | seq x y ihx ihy=>
   intro fr H u r k
   rw[acodeD]at k
   split at k
   . rename_i hv
     obtain⟨n,hn⟩:=ihx _ _ _ _ hv
     obtain⟨m,hm⟩:=ihy _ _ _ _ k
     refine⟨max n m, ?_⟩
     rw[acodeD,acodeD_mono (cbs_le tab (Nat.le_max_left n m)) _ _ _ _ _ hn]
     exact acodeD_mono (cbs_le tab (Nat.le_max_right n m)) _ _ _ _ _ hm
   . rename_i hno
     obtain⟨n,hn⟩:=ihx _ _ _ _ k
     refine⟨n, ?_⟩
     rw[acodeD,hn]
     obtain⟨e,fr',H',u'⟩:=r
     cases e<;>first|rfl|exact absurd k (hno _ _ _)
 | _=>
   intro fr H u r k
   simp only[acodeD]at k ⊢
   split at k
   . rename_i hv;obtain⟨n,hn⟩:=acode_fin _ _ _ _ hv;exact⟨n,by rw[hn];exact k⟩
   . cases k
theorem bodyD_fin {fi:AFun} {args:List AV} {H:Heap} {u:Mode} {r:Out×Heap×Mode} (k:bodyD (cbL tab) fi args H u=some r):∃n,bodyD (cbs tab n) fi args H u=some r:=by
 unfold bodyD at*
 split at k
 . rename_i hv;obtain⟨n,hn⟩:=acodeD_fin _ _ _ _ _ hv;exact⟨n,by rw[hn];exact k⟩
 . cases k
theorem leaveA_fin {r:Mode×Heap}:∀(ds:List ADf) (u:Mode) (H:Heap),leaveA tab (cbL tab) ds u H=some r->∃n,leaveA tab (cbs tab n) ds u H=some r:=by
 intro ds
 induction ds with
 |nil=>intro u H k;exact⟨0,k⟩
 | cons d ds ih=>
   intro u H k
   cases d with
   | mark id=>
     rw[leaveA]at k
     simp only[leaveA]
     split at k
     . rename_i ho;(try simp only[ho]);exact ih _ _ k
     . cases k
   | call f args=>
     rw[leaveA]at k
     simp only[leaveA]
     split at k
     . rename_i hf
       (try simp only[hf])
       split at k
       . rename_i hv
         obtain⟨n,hn⟩:=bodyD_fin hv
         obtain⟨m,hm⟩:=ih _ _ k
         refine⟨max n m, ?_⟩
         rw[bodyD_mono (cbs_le tab (Nat.le_max_left n m)) hn]
         exact leaveA_mono (cbs_le tab (Nat.le_max_right n m)) (fun _ _ h=>h) _ _ _ hm
       . rename_i hv
         obtain⟨n,hn⟩:=bodyD_fin hv
         obtain⟨m,hm⟩:=ih _ _ k
         refine⟨max n m, ?_⟩
         rw[bodyD_mono (cbs_le tab (Nat.le_max_left n m)) hn]
         exact leaveA_mono (cbs_le tab (Nat.le_max_right n m)) (fun _ _ h=>h) _ _ _ hm
       . cases k
     . cases k
theorem bodyA_fin {fi:AFun} {args:List AV} {H:Heap} {r:Out×Heap} (k:bodyA tab (cbL tab) fi args H=some r):∃n,bodyA tab (cbs tab n) fi args H=some r:=by
 unfold bodyA at*
 split at k
 . rename_i hv
   obtain⟨n,hn⟩:=acode_fin _ _ _ _ hv
   split at k
   . rename_i hu
     split at k
     . rename_i hl
       obtain⟨m,hm⟩:=leaveA_fin _ _ _ hl
       refine⟨max n m, ?_⟩
       rw[acode_mono (cbs_le tab (Nat.le_max_left n m)) _ _ _ _ hn]
       (try simp only[hu])
       rw[leaveA_mono (cbs_le tab (Nat.le_max_right n m)) (fun _ _ h=>h) _ _ _ hm]
       exact k
     . rename_i hl
       obtain⟨m,hm⟩:=leaveA_fin _ _ _ hl
       refine⟨max n m, ?_⟩
       rw[acode_mono (cbs_le tab (Nat.le_max_left n m)) _ _ _ _ hn]
       (try simp only[hu])
       rw[leaveA_mono (cbs_le tab (Nat.le_max_right n m)) (fun _ _ h=>h) _ _ _ hm]
       exact k
     . cases k
   . cases k
 . cases k
theorem pc_of {f:FuncId} {args:List AV} {r:PR} (k:pcA tab (cbL tab) f args=some r):(cbL tab).pc f args=some r:=by
 unfold pcA at k
 split at k
 . rename_i fi hf
   split at k
   . rename_i g hg
     refine cbL_pc.2 ⟨1, ?_⟩
     show pcA tab (cbs tab 0) f args=some r
     unfold pcA
     rw[hf]
     simp only[hg]
     exact k
   rename_i hg
   split at k
   . rename_i hc
     cases hb:bodyA tab (cbL tab) fi (args.map lend) [] with
     |none=>rw[hb,outM_none]at k;cases k
     | some q=>
       obtain⟨n,hn⟩:=bodyA_fin hb
       refine cbL_pc.2 ⟨n+1, ?_⟩
       show pcA tab (cbs tab n) f args=some r
       unfold pcA
       rw[hf]
       simp only[hg,hc,if_true]
       rw[hn,<-hb]
       exact k
   . cases k
 . cases k
theorem ic_of {f:FuncId} {args:List AV} {H:Heap} {r:Out×Heap} (k:icA tab (cbL tab) f args H=some r):(cbL tab).ic f args H=some r:=by
 unfold icA at k
 split at k
 . rename_i fi hf
   split at k
   . cases k
   . rename_i hc
     split at k
     . rename_i hg
       refine cbL_ic.2 ⟨1, ?_⟩
       show icA tab (cbs tab 0) f args H=some r
       unfold icA
       rw[hf]
       simp only[hc,if_neg,Bool.false_eq_true,not_false_eq_true]
       rw[hg]
       exact k
     . rename_i hg
       obtain⟨n,hn⟩:=bodyA_fin k
       refine cbL_ic.2 ⟨n+1, ?_⟩
       show icA tab (cbs tab n) f args H=some r
       unfold icA
       rw[hf]
       simp only[hc,if_neg,Bool.false_eq_true,not_false_eq_true]
       rw[hg]
       exact hn
 . cases k
theorem yl_of {id:Nat} {args:List AV} {H:Heap} {r:Out×Heap} (k:ylA (cbL tab) id args H=some r):(cbL tab).yl id args H=some r:=by
 have:∃n,ylA (cbs tab n) id args H=some r:=by
   unfold ylA at k
   split at k
   . rename_i hl0
     split at k
     . rename_i hl
       split at k
       . rename_i hv
         obtain⟨n,hn⟩:=acode_fin _ _ _ _ hv
         split at k
         . rename_i hl2
           split at k
           . rename_i hv2
             obtain⟨m,hm⟩:=acode_fin _ _ _ _ hv2
             refine⟨max n m, ?_⟩
             unfold ylA
             rw[hl0]
             simp only[hl,if_true]
             rw[acode_mono (cbs_le tab (Nat.le_max_left n m)) _ _ _ _ hn]
             (try simp only[hl2])
             rw[acode_mono (cbs_le tab (Nat.le_max_right n m)) _ _ _ _ hm]
             exact k
           . cases k
         . cases k
       . cases k
     . cases k
   . cases k
 obtain⟨n,hn⟩:=this
 exact cbL_yl.2 ⟨n+1,hn⟩
theorem run_of {rd:Option Nat} {c:ACode} {fr:Fr} {H:Heap} {r:Ex×Fr×Heap} (k:acode (cbL tab) rd c fr H=some r):(cbL tab).run rd c fr H=some r:=by
 obtain⟨n,hn⟩:=acode_fin _ _ _ _ k
 exact cbL_run.2 ⟨n+1,hn⟩
end limit
end Go.Am
