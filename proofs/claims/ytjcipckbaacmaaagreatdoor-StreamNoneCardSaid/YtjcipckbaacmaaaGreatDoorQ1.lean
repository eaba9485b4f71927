/- TEXTS OF THE WALKS, put together: LNo CG0 CG2. No condition but those stated. -/
import Derived.Test.YtjcipckbaacmaaaGreatDoorNFuns
import Derived.Test.YtjcipckbaacmaaaGreatDoorAmOpen
import Derived.Test.YtjcipckbaacmaaaGreatDoorAmFast
import Derived.KernelRfl
import Derived.Shelf.Spec.SlicesGrow
import Derived.Test.YtjcipckbaacmaaaGreatDoorProg
import Derived.WalkKit
import Derived.BigCall
import Derived.Below
import Derived.Laws.OwnMore
import Derived.Test.YtjcipckbaacmaaaGreatDoorP1
import Derived.Test.YtjcipckbaacmaaaGreatDoorAmTop
import Derived.Test.YtjcipckbaacmaaaGreatDoorChecked
open Int (reduceEq)
open Nat (reduceEqDiff reduceAdd reduceMul reduceLT reduceLeDiff)
set_option linter.all false
set_option maxHeartbeats 8000000
set_option maxRecDepth 1000000
namespace Go.Proofs.YtjcipckbaacmaaaGreatDoor
open Go Go.Am
theorem pc_body {tab:FuncId->Option AFun} {f:FuncId} {fi:AFun} {args:List AV} {r:PR} (n:Nat) (ht:tab f=some fi) (hc:fi.con=none) (hm:fi.mode=1) (hp:hfL (args.map lend)=true)
   (hb:purify (bodyF tab (cbsK tab (fun _ _=>none) n) fi (args.map lend) [])=some r):(cbL tab).pc f args=some r:=by
 refine pc_run (known:=fun _ _=>none) (fun _ _ _ h=>by cases h) (n+1) ?_
 show pcF tab (cbsK tab (fun _ _=>none) n) f args=some r
 unfold pcF
 have ho:pcOn fi args=true:=by unfold pcOn;rw[hm];exact hp
 have h5:¬fi.mode=5:=by rw[hm];decide
 simp only[ht,hc,ho,if_true,if_neg h5]
 exact hb
theorem hfL_mem:∀{l:List AV},(∀v∈l,v.hf=true)->hfL l=true
 |[],_=>rfl
 | v::r,h=>by
   rw[hfL,h v (List.mem_cons_self ..),hfL_mem (fun w hw=>h w (List.mem_cons_of_mem _ hw))];rfl
theorem okS_hf {s:Sh} {v:AV} (h:OkS s v):v.hf=true:=by
 induction h with
 |int=>rfl
 |bool=>rfl
 |str=>rfl
 |slnil=>rfl
 | sl L rows h hl hr ih=>
   show(hfL rows.flatten&&true)=true
   rw[Bool.and_true]
   refine hfL_mem fun v hv=> ?_
   obtain⟨r,h1,h2⟩:=List.mem_flatten.1 hv
   obtain⟨i,hi⟩:=List.mem_iff_getElem?.1 h2
   have hlt:i<L.length:=by rw[<-hl r h1];exact(List.getElem?_eq_some_iff.1 hi).1
   exact ih r h1 i _ v (List.getElem?_eq_getElem hlt) hi
def ansV (n0 n1 n2 n3 n4 n8:Int) (s6:ByteArray) (v5 v7:AV):AV:= .agg [.int .i64 n0,.int .i64 n1,.int .i64 n2,.int .i64 n3,.int .i64 n4,v5,.str s6,v7,.int .u64 n8]
noncomputable def runs (v:AV):Option PR:=purify (bodyF tab (cbsK tab (fun _ _=>none) 60) c3 [v] [])
theorem runs1 (n0 n1 n2 n3 n4 n8:Int) (s6:ByteArray) (a b k5 k7:Nat) (c d:List AV):runs (ansV n0 n1 n2 n3 n4 n8 s6 (.sl a k5 c .ro) (.sl b k7 d .ro))=some (.plain (.bool true)):=by kernel_rfl
theorem runs2 (n0 n1 n2 n3 n4 n8:Int) (s6:ByteArray) (a b k7:Nat) (d:List AV):runs (ansV n0 n1 n2 n3 n4 n8 s6 (.sl a 0 [] .z) (.sl b k7 d .ro))=some (.plain (.bool true)):=by kernel_rfl
theorem runs3 (n0 n1 n2 n3 n4 n8:Int) (s6:ByteArray) (a b k5:Nat) (c:List AV):runs (ansV n0 n1 n2 n3 n4 n8 s6 (.sl a k5 c .ro) (.sl b 0 [] .z))=some (.plain (.bool true)):=by kernel_rfl
theorem runs4 (n0 n1 n2 n3 n4 n8:Int) (s6:ByteArray) (a b:Nat):runs (ansV n0 n1 n2 n3 n4 n8 s6 (.sl a 0 [] .z) (.sl b 0 [] .z))=some (.plain (.bool true)):=by kernel_rfl
theorem streamNone_pc {xs:List AV} (h:OkL [.int .i64,.int .i64,.int .i64,.int .i64,.int .i64,.slice [.int .u8],.str,.slice [.int .u64,.str,.int .i64],.int .u64] xs):(cbL tab).pc 3 [.agg xs]=some (.plain (.bool true)):=by
 match xs,h.1 with
 | [v0,v1,v2,v3,v4,v5,v6,v7,v8],_=>
   have o0:=h.2 0 _ _ rfl rfl
   have o1:=h.2 1 _ _ rfl rfl
   have o2:=h.2 2 _ _ rfl rfl
   have o3:=h.2 3 _ _ rfl rfl
   have o4:=h.2 4 _ _ rfl rfl
   have o5:=h.2 5 _ _ rfl rfl
   have o6:=h.2 6 _ _ rfl rfl
   have o7:=h.2 7 _ _ rfl rfl
   have o8:=h.2 8 _ _ rfl rfl
   have f5:=okS_hf o5
   have f7:=okS_hf o7
   cases o0 with|int _ n0 _ _=>
   cases o1 with|int _ n1 _ _=>
   cases o2 with|int _ n2 _ _=>
   cases o3 with|int _ n3 _ _=>
   cases o4 with|int _ n4 _ _=>
   cases o6 with|str s6 _=>
   cases o8 with|int _ n8 _ _=>
   cases o5 with
   | slnil=>
     cases o7 with
     |slnil=>exact pc_body 60 rfl rfl rfl rfl (runs4 ..)
     |sl _ r _ _ _=>exact pc_body 60 rfl rfl rfl (by simp only[lend,unown,List.map,AV.hf,hfL,Bool.true_and,Bool.and_true,Tk.hf]at f7 ⊢;exact f7) (runs2 ..)
   | sl _ q _ _ _=>
     cases o7 with
     |slnil=>exact pc_body 60 rfl rfl rfl (by simp only[lend,unown,List.map,AV.hf,hfL,Bool.true_and,Bool.and_true,Tk.hf]at f5 ⊢;exact f5) (runs3 ..)
     |sl _ r _ _ _=>exact pc_body 60 rfl rfl rfl (by simp only[lend,unown,List.map,AV.hf,hfL,Bool.true_and,Bool.and_true,Tk.hf,Bool.and_eq_true]at f5 f7 ⊢;exact⟨f5,f7⟩) (runs1 ..)
end Go.Proofs.YtjcipckbaacmaaaGreatDoor
namespace Go.Proofs.YtjcipckbaacmaaaGreatDoor
open Go Go.Proofs Go.Shelf Go.RowKit
def gren:Go.Shelf.Ren:=⟨fun|4=>48|n=>n,fun|22=>25|25=>56|n=>n,fun|n=>n⟩
theorem glays:Go.Proofs.Lays8.n4 Tryz.prog gren:={
 mixed:=by kernel_rfl
 f4:=⟨Tryz.f48.name,by kernel_rfl,Tryz.func48.trans (congrArg some (by kernel_rfl))⟩
 t0:=Tryz.underlying0
 a0:=Tryz.isAgg0
 z0:=Tryz.sizeOf0
 v0:=Tryz.zeroValue0
 t3:=Tryz.underlying3
 a3:=Tryz.isAgg3
 z3:=Tryz.sizeOf3
 v3:=Tryz.zeroValue3
 t4:=Tryz.underlying4
 a4:=Tryz.isAgg4
 z4:=Tryz.sizeOf4
 v4:=Tryz.zeroValue4
 t9:=Tryz.underlying9
 a9:=Tryz.isAgg9
 z9:=Tryz.sizeOf9
 v9:=Tryz.zeroValue9
 t20:=Tryz.underlying20
 a20:=Tryz.isAgg20
 z20:=Tryz.sizeOf20
 v20:=Tryz.zeroValue20
 t22:=Tryz.underlying25
 a22:=Tryz.isAgg25
 z22:=Tryz.sizeOf25
 v22:=Tryz.zeroValue25
}
theorem info9:∃i,Tryz.prog.info? 56=some i/\i.zero=some (.agg #[.int .u64 0,.string ⟨#[]⟩,.int .i64 0])/\i.size=3/\i.bytes=32:=by
 have h:(Tryz.prog.info? 56).map (fun i=>(i.zero,i.size,i.bytes))=some (some (.agg #[.int .u64 0,.string ⟨#[]⟩,.int .i64 0]),3,32):=by kernel_rfl
 obtain⟨i,hi,h2⟩:=Option.map_eq_some_iff.1 h
 simp only[Prod.mk.injEq]at h2
 exact⟨i,hi,h2.1,h2.2.1,h2.2.2⟩
def GrownP (w:World) (n:Nat) (e:Ending) (w':World):Prop:=∃v,e= .returned v/\w'.ownsRow w.heap.size 56 3 v 0 []/\Below w.heap.size w w'/\(n=0->v= .slice none 0 0)
theorem grow_nil (n:Nat) (hn:n<=4294967296) (w:World):
   Calls Tryz.prog 48 #[.slice none 0 0,.int .i64 n] w (GrownP w n):=by
 by_cases h0:n=0
 . subst h0
   refine(Any8.slices_Grow_room glays none 0 0 0 w (Nat.le_refl _) (by omega) (by omega) (by omega)).mono ?_
   rintro e w' ⟨rfl,rfl⟩
   exact⟨_,rfl,World.ownsRow_nil _ _ _ _,Below.refl _ _,fun _=>rfl⟩
 . obtain⟨i,hi,hz,hs,hb⟩:=info9
   have hg:=grownCap_ge w (0+n) 0 56
   have hgl:=grownCap_le_maxLen w (0+n) 0 56 (by simp only[maxLen];omega)
   refine(Any8.slices_Grow_grow glays i (.agg #[.int .u64 0,.string ⟨#[]⟩,.int .i64 0]) hi hz (by omega) none 0 0 n [] w (Nat.le_refl _) (by omega) (by rw[hb];omega) (by omega) (by simp) (fun _=>rfl) (fun a h=>by cases h)).mono ?_
   rintro e w' ⟨rfl,rfl⟩
   refine⟨_,rfl,World.ownsRow_made w.drew _ _ (Nat.le_refl _) hgl ?_,((Below.refl _ w).drew).alloc (Nat.le_refl _) _,fun h=>absurd h h0⟩
   have z1:(.agg #[.int .u64 0,.string ⟨#[]⟩,.int .i64 0]:Value).cells.size=3:=rfl
   have g1:grownCap w (0+n) 0 (gren.t 25)=grownCap w (0+n) 0 56:=rfl
   simp only[Array.size_append,size_zeroCells,z1,Nat.mul_one,List.size_toArray,List.length_nil,g1]
   omega
structure CRow where
 a:Option Addr
 n:Nat
 c:Nat
 xs:List Value
def CRow.ok (w:World) (r:CRow):Prop:=r.xs.length=r.n*3/\(r.a=none->r.n=0/\r.c=0)/\(∀a,r.a=some a->∀j u,r.xs[j]? =some u->w.cell? (a.add j)=some u)/\∀u∈r.xs,u.oneCell'=true
def sumN (l:List CRow):Nat:=(l.map (·.n)).sum
theorem sumN_take (l:List CRow) (k:Nat):sumN (l.take k)<=sumN l:=by
 induction l generalizing k with
 |nil=>simp
 | cons r l ih=>
   cases k with
   |zero=>simp[sumN]
   | succ k=>
     have:=ih k
     simp only[sumN,List.take_succ_cons,List.map_cons,List.sum_cons]at this ⊢;omega
theorem sumN_succ (l:List CRow) (k:Nat) (r:CRow) (h:l[k]? =some r):sumN (l.take (k+1))=sumN (l.take k)+r.n:=by
 rw[List.take_add_one,h]
 simp[sumN]
theorem append_row (w wr:World) (v:Value) (n:Nat) (xs:List Value) (r:CRow) (ho:wr.ownsRow w.heap.size 56 3 v n xs) (hb:Below w.heap.size w wr) (hr:r.ok wr) (hs:n+r.n<=4294967296):
   ∃v' w',(∀ty,(Builtin.append_ #[25,25] ty #[v,.slice r.a r.n r.c]).run Tryz.prog wr= .ok v' w')/\w'.ownsRow w.heap.size 56 3 v' (n+r.n) (xs++r.xs)/\Below w.heap.size w w'/\(v= .slice none 0 0->r.n=0->v'= .slice none 0 0):=by
 obtain⟨i,hi,hz,hsz,hby⟩:=info9
 obtain⟨h1,h2,h3,h4⟩:=hr
 obtain⟨a,m,c,ys⟩:=r
 dsimp only at*
 have hsize:=hb.size
 cases a with
 | none=>
   obtain⟨rfl,rfl⟩:=h2 rfl
   have:ys=[]:=List.eq_nil_of_length_eq_zero (by omega)
   subst this
   refine⟨v,wr,fun ty=>run_append_owned_none wr w.heap.size 25 ty 56 i 3 Tryz.underlying25 hi v n xs ho,by simpa using ho,hb,fun h _=>h⟩
 | some a=>
   have key:∀ty,∃v' w',(Builtin.append_ #[25,25] ty #[v,.slice (some a) m c]).run Tryz.prog wr= .ok v' w'/\w'.ownsRow w.heap.size 56 3 v' (n+m) (xs++ys)/\wr.grownBy w' v.ownBlock/\(v'= .slice none 0 0↔v= .slice none 0 0/\m=0):=fun ty=>
     run_append_own wr w.heap.size 25 ty 56 i (.agg #[.int .u64 0,.string ⟨#[]⟩,.int .i64 0]) 3 32 Tryz.underlying25 hi hz hsz hby rfl (by omega) v n xs ho a m c ys (by omega) (h3 a rfl) h4 (by simp only[maxLen];omega) (by omega) hsize
   obtain⟨v',w',k1,k2,k3,k4⟩:=key 0
   refine⟨v',w',fun ty=> ?_,k2,hb.grown k3 hsize (fun k hk=>(ho.lt k hk).1),fun h h'=>k4.2 ⟨h,h'⟩⟩
   rw[<-k1]
   rfl
def ConcP (rows:List CRow) (w:World) (e:Ending) (w':World):Prop:=∃v,e= .returned v/\w'.ownsRow w.heap.size 56 3 v (sumN rows) (rows.flatMap (·.xs))/\Below w.heap.size w w'/\(sumN rows=0->v= .slice none 0 0)
set_option maxHeartbeats 4000000 in
set_option maxRecDepth 1000000 in
theorem concat_walk (base:Addr) (N cap:Nat) (rows:List CRow) (w:World) (hl:rows.length=N) (hN:N<=4294967296)
   (hc:∀i r,rows[i]? =some r->w.cell? (base.add i)=some (.slice r.a r.n r.c)) (hr:∀r∈rows,r.ok w) (ht:sumN rows<=4294967296):
   Calls Tryz.prog 31 #[.slice (some base) N cap] w (ConcP rows w):=by
 go_enter Tryz.func31,Tryz.ntmps31
 go_wp2
 go_loopw [3,11] (fun s i wr=>∃(k:Nat),k<=N/\i= .int .i64 k/\s= .int .i64 (sumN (rows.take k):Nat)/\wr=w) (fun s i _=>N-(RowKit.intOf i).toNat)
 case atStart=>exact⟨0,by omega,rfl,rfl,rfl⟩
 case round=>
   obtain⟨k,hk,rfl,rfl,hww⟩:=hrel
   have hww:=hww.symm
   subst hww
   by_cases hp:k<N
   . obtain⟨r,hrk⟩:∃r,rows[k]? =some r:=⟨_,List.getElem?_eq_getElem (by omega)⟩
     have hcell:=hc k r hrk
     have hss:=sumN_succ rows k r hrk
     have hle:=sumN_take rows (k+1)
     rw[hss]at hle
     have hw:wrap64 ((sumN (rows.take k):Int)+(r.n:Int))=(sumN (rows.take k):Int)+(r.n:Int):=by unfold wrap64;omega
     have hneg:¬((sumN (rows.take k):Int)+(r.n:Int)<0):=by omega
     clear hrk hc
     go_wp2
     refine⟨⟨k+1,by omega,rfl, ?_,trivial⟩, ?_⟩
     . rw[hss];rfl
     . show N-((k:Int)+1).toNat<N-(k:Int).toNat
       omega
   . obtain rfl:k=N:=by omega
     have hall:rows.take k=rows:=List.take_of_length_le (by omega)
     rw[hall]
     go_wp2_with (go_at_call 48;refine(grow_nil (sumN rows) ht w).mono ?_)
     rintro e W1 ⟨v,rfl,ho,hb,hn0⟩
     go_wp2
     go_loopw [6,27] (fun s i wq=>∃(j:Nat),j<=k/\i= .int .i64 j/\wq.ownsRow w.heap.size 56 3 s (sumN (rows.take j)) ((rows.take j).flatMap (·.xs))/\Below w.heap.size w wq/\(sumN rows=0->s= .slice none 0 0)) (fun s i _=>k-(RowKit.intOf i).toNat)
     case atStart=>exact⟨0,by omega,rfl,ho,hb,hn0⟩
     case round=>
       obtain⟨j,hj,rfl,ho1,hb1,hn1⟩:=hrel
       by_cases hp:j<k
       . obtain⟨r,hrk⟩:∃r,rows[j]? =some r:=⟨_,List.getElem?_eq_getElem (by omega)⟩
         have hcell:=hc j r hrk
         have hblk:(base.add j).block<w.heap.size:=World.block_lt_of_cell? w (base.add j) hcell
         rw[<-hb1.cell (p:=base.add j) hblk]at hcell
         have hss:=sumN_succ rows j r hrk
         have hle:=sumN_take rows (j+1)
         rw[hss]at hle
         have hok:r.ok wr:=by
           obtain⟨q1,q2,q3,q4⟩:=hr r (List.mem_of_getElem? hrk)
           exact⟨q1,q2,fun a ha i u hu=>by
             have:=q3 a ha i u hu
             rw[<-this]
             exact hb1.cell (World.block_lt_of_cell? w _ this),q4⟩
         have hxs:(rows.take (j+1)).flatMap (·.xs)=(rows.take j).flatMap (·.xs)++r.xs:=by
           rw[List.take_add_one,hrk]
           simp
         obtain⟨v',w',k1,k2,k3,k4⟩:=append_row w wr _ _ _ r ho1 hb1 hok (by omega)
         rw[<-hxs,<-hss]at k2
         clear hrk hok hc hr
         go_wp2_with (at_builtin;refine Lib.wpList_append_run _ rfl _ _ _ _ rfl _ _ rfl rfl _ _ (k1 _) ?_)
         refine⟨⟨j+1,by omega,rfl,k2,k3,fun h0=>k4 (hn1 h0) (by have:=sumN_take rows (j+1);omega)⟩, ?_⟩
         show k-((j:Int)+1).toNat<k-(j:Int).toNat
         omega
       . obtain rfl:j=k:=by omega
         rw[hall]at ho1
         go_wp2
         go_ret
         exact⟨_,rfl,ho1,hb1,hn1⟩
end Go.Proofs.YtjcipckbaacmaaaGreatDoor
namespace Go.Proofs.YtjcipckbaacmaaaGreatDoor
open Go Go.Am Go.RowKit
variable [Thaw]
theorem add_none' (b o i:Nat):(⟨b,o,none⟩:Addr).add i=⟨b,o+i,none⟩:=by unfold Addr.add;split<;>simp_all
theorem row_inv0 {V:View} {W:World} (hi:∀p v,V.imm p=some v->W.cell? p=some v/\v.oneCell'=true) {s n k:Nat} {cs:List AV} {tk:Tk} {v:Value} (h:Rep V (.sl s n cs tk) v) (hs:n=0∨s=k) (hn:n*k<=cs.length):
   ∃(a:Option Addr) (c:Nat) (xs:List Value),v= .slice a n c/\xs.length=n*k/\(a=none->n=0/\c=0)/\(∀a',a=some a'->∀j u,xs[j]? =some u->W.cell? (a'.add j)=some u)/\(∀u∈xs,u.oneCell'=true)/\RepL V (cs.take (n*k)) xs:=by
 have main:∀(b o cap:Nat) (f:Nat->Value),v= .slice (some ⟨b,o,none⟩) n cap->(∀i,i<cs.length->V.imm ⟨b,o+i,none⟩=some (f i))->(∀(i:Nat) (x:AV),cs[i]? =some x->Rep V x (f i))->∃(a:Option Addr) (c:Nat) (xs:List Value),v= .slice a n c/\xs.length=n*k/\(a=none->n=0/\c=0)/\(∀a',a=some a'->∀j u,xs[j]? =some u->W.cell? (a'.add j)=some u)/\(∀u∈xs,u.oneCell'=true)/\RepL V (cs.take (n*k)) xs:=by
   intro b o cap f e h1 h2
   refine⟨some ⟨b,o,none⟩,cap,(List.range (n*k)).map f,e,by simp,fun h=>(by cases h), ?_, ?_, ?_, ?_⟩
   . intro a ha j u hu
     cases ha
     simp only[List.getElem?_map,Option.map_eq_some_iff]at hu
     obtain⟨q,hk,rfl⟩:=hu
     obtain⟨hlt,rfl⟩:=List.getElem?_eq_some_iff.1 hk
     simp only[List.length_range]at hlt
     simp only[List.getElem_range]
     rw[add_none']
     exact(hi _ _ (h1 j (by omega))).1
   . intro u hu
     obtain⟨j,hj,rfl⟩:=List.mem_map.1 hu
     have:=List.mem_range.1 hj
     exact(hi _ _ (h1 j (by omega))).2
   . simp;omega
   . intro i x v hx hv
     simp only[List.getElem?_map,Option.map_eq_some_iff]at hv
     obtain⟨q,hk,rfl⟩:=hv
     obtain⟨hlt,rfl⟩:=List.getElem?_eq_some_iff.1 hk
     simp only[List.getElem_range]
     rw[List.getElem?_take]at hx
     split at hx
     . exact h2 i x hx
     . cases hx
 cases h with
 |slnil=>exact⟨none,0,[],rfl,by simp,fun _=>⟨rfl,rfl⟩,fun a h=>(by cases h),fun u h=>(by cases h),by simpa using RepL.nil _⟩
 |slx _ a=>exact⟨some a,0,[],rfl,by simp,fun h=>(by cases h),fun a _ j u h=>(by simp at h),fun u h=>(by cases h),by simpa using RepL.nil _⟩
 |sl f a1 a2 a3 a4 a5=>exact main _ _ _ f rfl a4 a5
 |slo f a1 a2 a3 a4 a5=>exact main _ 0 _ f rfl (fun i h=>by rw[Nat.zero_add];exact a4 i h) a5
theorem row_inv {V:View} {W:World} (hi:∀p v,V.imm p=some v->W.cell? p=some v/\v.oneCell'=true) {s n:Nat} {cs:List AV} {tk:Tk} {v:Value} (h:Rep V (.sl s n cs tk) v) (hs:n=0∨s=3) (hn:n*3<=cs.length):
   ∃r:CRow,v= .slice r.a r.n r.c/\r.ok W/\RepL V (cs.take (n*3)) r.xs/\r.n=n:=by
 obtain⟨a,c,xs,h1,h2,h3,h4,h5,h6⟩:=row_inv0 hi h hs hn
 exact⟨⟨a,n,c,xs⟩,h1,⟨h2,h3,h4,h5⟩,h6,rfl⟩
theorem rows_inv {V:View} {W:World} (hi:∀p v,V.imm p=some v->W.cell? p=some v/\v.oneCell'=true):∀{cells:List AV} {vals:List Value} {L:List (List AV)},RepL V cells vals->rowsA cells=some L→
   ∃rows:List CRow,rows.length=cells.length/\(∀(i:Nat) (r:CRow),rows[i]? =some r->vals[i]? =some (.slice r.a r.n r.c))/\(∀r∈rows,r.ok W)/\RepL V L.flatten (rows.flatMap (·.xs))/\sumN rows*3=L.flatten.length
 | [],vals,L,h,hL=>by
   cases hL
   exact⟨[],rfl,fun i r h=>(by simp at h),fun r h=>(by cases h),RepL.nil _,rfl⟩
 |x::cells,[],L,h,hL=>by have:=h.1;simp at this
 | x::cells,v::vals,L,h,hL=>by
   unfold rowsA at hL
   split at hL
   . cases ‹_::_=[]›
   . rename_i s n cs tk r heq
     cases heq
     split at hL
     . rename_i hc
       obtain⟨L',h1,rfl⟩:=Option.map_eq_some_iff.1 hL
       obtain⟨r0,k1,k2,k3,k4⟩:=row_inv hi h.head hc.1 hc.2
       obtain⟨rows,j1,j2,j3,j4,j5⟩:=rows_inv hi h.tail h1
       have hxl:=k3.1
       rw[List.length_take]at hxl
       refine⟨r0::rows,by simp[j1],fun i r hr=> ?_,fun r hr=> ?_, ?_, ?_⟩
       . cases i with
         |zero=>simp at hr;subst hr;simp[k1]
         |succ i=>simpa using j2 i r (by simpa using hr)
       . rcases List.mem_cons.1 hr with rfl|hr
         . exact k2
         . exact j3 r hr
       . exact k3.append j4
       . have:=k2.1
         simp only[sumN,List.map_cons,List.sum_cons,List.flatten_cons,List.length_append,List.length_take]at j5 ⊢
         omega
     . cases hL
   . cases hL
theorem con_of (f:FuncId) (hf:∀(W:World) (us:Array Value),(callFunc f us).run Tryz.prog W= .ok (.enter f us) W)
   (hw:∀(base:Addr) (N cap:Nat) (rows:List CRow) (w:World),rows.length=N->N<=4294967296->(∀(i:Nat) (r:CRow),rows[i]? =some r->w.cell? (base.add i)=some (.slice r.a r.n r.c))->(∀r∈rows,r.ok w)->sumN rows<=4294967296->Calls Tryz.prog f #[.slice (some base) N cap] w (ConcP rows w)):
   ConOk Tryz.prog f concC:=by
 intro args r hg V W us hi hr
 refine⟨hf W us, ?_⟩
 show CallsIn Fence.wide 0 Tryz.prog f us W (PcPost V W r)
 refine callsIn_wide.2 ?_
 unfold concC at hg
 split at hg
 case h_2=>cases hg
 rename_i n cs tk
 split at hg
 case h_2=>cases hg
 rename_i L hL
 split at hg
 case isFalse=>cases hg
 rename_i hcnd
 obtain⟨hn0,hnc,hn,htl⟩:=hcnd
 cases hg
 have hus:∃v,us= #[v]/\Rep V (.sl 1 n cs tk) v:=by
   have h1:=hr.1
   match hu:us.toList,hr with
   |[v],hr=>exact⟨v,by rw[<-Array.toList_inj,hu],hr.head⟩
   |[],hr=>have:=hr.1;simp at this
   |_::_::_,hr=>have:=hr.1;simp at this
 obtain⟨v,rfl,hv⟩:=hus
 obtain⟨a,c,xs,e0,q1,q2,q3,q4,rep0⟩:=row_inv0 (k:=1) hi hv (.inr rfl) (by omega)
 rw[Nat.mul_one]at q1 rep0
 obtain⟨rows,j1,j2,j3,j4,j5⟩:=rows_inv hi rep0 hL
 have hxl:=rep0.1
 rw[List.length_take]at hxl
 cases a with
 |none=>have:=(q2 rfl).1;omega
 | some a=>
   subst e0
   refine(hw a n c rows W (by rw[j1,List.length_take];omega) hn (fun i r hr=>q3 a rfl i _ (j2 i r hr)) j3 (by omega)).mono ?_
   rintro e W' ⟨v,rfl,ho,hb,hnil⟩
   have hsn:sumN rows=L.flatten.length/3:=by omega
   rw[hsn]at ho hnil
   by_cases hz:L.flatten=[]
   . rw[if_pos hz]
     obtain rfl:=hnil (by rw[hz];rfl)
     refine⟨V.imm,hb,fun p v hp=> ?_,fun p v hp=>hp,fun p v hp=> .inl hp,.slnil 0⟩
     obtain⟨h1,h2⟩:=hi p v hp
     exact⟨by rw[hb.cell (World.block_lt_of_cell? W p h1)];exact h1,h2⟩
   . rw[if_neg hz]
     have hnz:L.flatten.length/3≠0:=fun e=>hz (List.eq_nil_of_length_eq_zero (by omega))
     have hcells:=fun{g}=>ho.cells (g:=g)
     rcases ho.2 with⟨rfl,h0⟩|⟨g,cap,cur,rfl,hbg,hg,hncap,hcm,hcs,htk⟩
     . exact absurd h0 hnz
     have hcell:=ho.cells (g:=g) rfl
     have hy1:∀u∈rows.flatMap (·.xs),u.oneCell'=true:=by
       intro u hu
       obtain⟨r,hr,hu⟩:=List.mem_flatMap.1 hu
       exact(j3 r hr).2.2.2 u hu
     generalize rows.flatMap (·.xs)=ys at*
     have hlt:∀p v,V.imm p=some v->p.block<W.heap.size:=fun p v hp=>World.block_lt_of_cell? W p (hi p v hp).1
     refine⟨fun p=>if p.block=g/\p.spot=none then ys[p.off]? else V.imm p,hb,fun p v hp=> ?_,fun p v hp=> ?_,fun p v hp=> ?_, ?_⟩
     . simp only at hp
       split at hp
       . rename_i hpg
         obtain⟨b,o,s⟩:=p
         simp only at hpg hp
         obtain⟨rfl,rfl⟩:=hpg
         have:=hcell _ _ hp
         rw[add_none',Nat.zero_add]at this
         exact⟨this,hy1 _ (List.mem_of_getElem? hp)⟩
       . obtain⟨h1,h2⟩:=hi p v hp
         exact⟨by rw[hb.cell (hlt p v hp)];exact h1,h2⟩
     . simp only
       rw[if_neg (by rintro ⟨h,_⟩;have:=hlt p v hp;omega)]
       exact hp
     . simp only at hp
       split at hp
       . rename_i hpg;exact .inr (by omega)
       . exact .inl hp
     . show Rep _ (.sl 3 (L.flatten.length/3) L.flatten .ro) _
       have hyl:=j4.1
       refine .sl (fun i=>ys.getD i undef) (by omega) (by omega) hncap (fun i hi2=> ?_) (fun i x hx=> ?_) (.inl rfl)
       . simp only[if_true,and_self,Nat.zero_add]
         rw[List.getD_eq_getElem?_getD,List.getElem?_eq_getElem (by omega)];rfl
       . obtain⟨u,hu,hr⟩:=j4.get hx
         rw[List.getD_eq_getElem?_getD,hu]
         show Rep ⟨fun p=>if p.block=g/\p.spot=none then ys[p.off]? else V.imm p,V.loc⟩ x u
         refine Rep.mono (V:=V) (V':=⟨fun p=>if p.block=g/\p.spot=none then ys[p.off]? else V.imm p,V.loc⟩) ⟨fun p v hp=> ?_,fun _ _ h=>h⟩ hr
         show(if p.block=g/\p.spot=none then ys[p.off]? else V.imm p)=some v
         rw[if_neg (by rintro ⟨h,_⟩;have:=hlt p v hp;omega)]
         exact hp
theorem concOk:ConOk Tryz.prog 31 concC:=con_of 31 (fun _ us=>callFunc_run Tryz.func31 rfl rfl us) concat_walk
end Go.Proofs.YtjcipckbaacmaaaGreatDoor
