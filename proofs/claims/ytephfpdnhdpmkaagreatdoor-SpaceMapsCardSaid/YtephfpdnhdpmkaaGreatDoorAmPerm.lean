/- A REGION'S OPERATIONS IN ANOTHER ORDER OF THE TEXT: the same orders to draw from. No condition but those stated. -/
import Derived.Test.YtephfpdnhdpmkaaGreatDoorAmDraw2
open Int (reduceEq)
open Nat (reduceEqDiff reduceAdd reduceMul reduceLT reduceLeDiff)
set_option linter.all false
namespace Go.Am
open Go Go.RowKit
set_option linter.unusedSectionVars false
variable [dy]
theorem CY {σ:Nat->Nat} {o:Oper} {F:Fence} {n:Nat} {P:Program} {a:Act} {w:World} {K:Act->World->Prop} {Q:Exit->Act->World->Prop}:(jr σ o).wpIn F n P a w K Q=o.wpIn F n P a w K Q:=rfl
theorem tG {F:Fence} {n:Nat} {P:Program} {ops ops':Array Oper} {σ:Nat->Nat} {Q:Exit->Act->World->Prop} (hσ:∀i,ops'[σ i]? =(ops[i]?).map (jr σ)) (hinj:∀i j,σ i=σ j->i=j) (hsur:∀j,∃i,σ i=j):
   ∀(fuel:Nat) (listed listed':Array Bool) (a:Act) (w:World),listed.size=ops.size->listed'.size=ops'.size->(∀i,listed'.getD (σ i) false=listed.getD i false)->wpAnyIn F n P .any ops' Q fuel listed' a w->wpAnyIn F n P .any ops Q fuel listed a w:=by
 have rdy:∀(listed listed':Array Bool),listed.size=ops.size->listed'.size=ops'.size->(∀i,listed'.getD (σ i) false=listed.getD i false)->∀i,i∈Region.ready .any ops listed↔σ i∈Region.ready .any ops' listed':=by
   intro listed listed' h1 h2 h3 i;rw[dx h1,dx h2];constructor
   . rintro ⟨o,ho,hu,he⟩
     refine⟨jr σ o,by rw[hσ,ho];rfl,by rw[h3];exact hu,fun e hm hb=> ?_⟩;simp only[jr,Array.mem_map]at hm;obtain⟨e0,hm0,rfl⟩:=hm;rw[h3];exact he e0 hm0 hb
   . rintro ⟨o',ho',hu,he⟩
     rw[hσ]at ho';obtain⟨o,ho,rfl⟩:=Option.map_eq_some_iff.1 ho';refine⟨o,ho,by rw[<-h3];exact hu,fun e hm hb=> ?_⟩;rw[<-h3];exact he {e with on:=σ e.on} (by simp only[jr,Array.mem_map];exact⟨e,hm,rfl⟩) hb
 have nil:∀(listed listed':Array Bool),listed.size=ops.size->listed'.size=ops'.size->(∀i,listed'.getD (σ i) false=listed.getD i false)->Region.ready .any ops listed=[]->Region.ready .any ops' listed'=[]:=by
   intro listed listed' h1 h2 h3 h0;apply List.eq_nil_iff_forall_not_mem.2;intro j hj;obtain⟨i,rfl⟩:=hsur j;have:=(rdy listed listed' h1 h2 h3 i).2 hj;rw[h0]at this;cases this
 have lin:∀(listed listed':Array Bool),listed.size=ops.size->listed'.size=ops'.size->(∀i,listed'.getD (σ i) false=listed.getD i false)->Region.ready .any ops' listed'=[]->Region.ready .any ops listed=[]:=by
   intro listed listed' h1 h2 h3 h0;apply List.eq_nil_iff_forall_not_mem.2;intro i hi;have:=(rdy listed listed' h1 h2 h3 i).1 hi;rw[h0]at this;cases this
 have yl:∀(tmps:Array Value) (j:Nat),yielded ops' tmps (σ j)=yielded ops tmps j:=by
   intro tmps j;unfold yielded;rw[hσ]
   cases ops[j]? <;>rfl
 intro fuel
 induction fuel with
 | zero=>
   intro listed listed' a w h1 h2 h3 h;exact⟨lin listed listed' h1 h2 h3 h.1,h.2⟩
 | succ fuel ih=>
   intro listed listed' a w h1 h2 h3 h;refine⟨fun h0=>h.1 (nil listed listed' h1 h2 h3 h0),fun i hi=> ?_⟩;have hi':=(rdy listed listed' h1 h2 h3 i).1 hi;have hop:=h.2 (σ i) hi';obtain⟨o,ho,_,_⟩:=(dx h1).1 hi;obtain⟨o',ho',_,_⟩:=(dx h2).1 hi'
   have hin:i<listed.size:=by rw[h1];exact(Array.getElem?_eq_some_iff.1 ho).1
   have hin':σ i<listed'.size:=by rw[h2];exact(Array.getElem?_eq_some_iff.1 ho').1
   have step:∀a w,wpAnyIn F n P .any ops' Q fuel (listed'.setIfInBounds (σ i) true) a w->wpAnyIn F n P .any ops Q fuel (listed.setIfInBounds i true) a w:=fun a w hk=>
     ih _ _ a w (by simpa using h1) (by simpa using h2) (fun j=>by
       rw[bS hin',bS hin,h3];by_cases hij:i=j
       . subst hij;simp
       . have:¬σ i=σ j:=fun e=>hij (hinj _ _ e)
         simp[hij,this]) hk
   unfold wpOpIn at hop ⊢;rw[hσ,ho]at hop;rw[ho];simp only[Option.map_some]at hop
   have hwt:Region.wanted (jr σ o) (yielded ops' a.tmps)=Region.wanted o (yielded ops a.tmps):=by
     unfold Region.wanted jr
     cases o.guard with
     |none=>rfl
     |some g=>simp only[Option.map_some,yl]
   rw[hwt]at hop;dsimp only;split
   . rename_i hw;rw[if_pos hw,CY]at hop;exact Oper.wpIn_mono step hop
   . rename_i hw;rw[if_neg hw]at hop;exact⟨hop.1,step _ _ hop.2⟩
theorem Hh {P:Program} {w0:World} {V:View} {H:ab} {W:World} {a:Act} {cb:CB} {rd ro:Option Nat} {ops:Array Oper} {Q:Exit->Act->World->Prop} {r:Ex×Fr×ab} (hcb:fD P cb) {id:Nat} {pre tail:List ai} {fr:Fr} {tm':List AV} (hc:fK P ops true=some (.drawn pre tail)) (hrd:RdR V rd ro) (hF:FrR V fr a) (hW:WR P w0 V H W)
   {e':List av} (h0:iW cb H pre fr.tm []=some (tm',e')) (h:aU cb rd tail {fr with tm:=tm'} (H++e')=some r)
   (hQ:∀V' a' W' ex,bO w0 V V'->WR P w0 V' r.2.2 W'->FrR V' r.2.1 a'->ExR V' r.1 ex->Q ex a' W'):(Code.region id ops true).wpIn (Fk ro) 0 P Q a W:=by
 unfold fK at hc;split at hc
 . rename_i a' h1;cases hc;obtain⟨hm,hw⟩:=tA hcb (id:=id) h1 hrd hF hW h0 h hQ;exact wpIn_region_any hm hw
 . simp only[if_true]at hc;split at hc
   . cases hc
   . rename_i os _;split at hc
     . rename_i hok;obtain⟨hm,hw⟩:=tA hcb (id:=id) hc hrd hF hW h0 h hQ;refine wpIn_region_any hm ?_;generalize D5 os (kX ops.toList [])=order at hok hw;simp only[EG,Bool.and_eq_true,decide_eq_true_eq,List.all_eq_true,List.mem_range]at hok;obtain⟨⟨hlen,hp1⟩,hp2⟩:=hok
       have hsz:(Bc order ops).size=ops.size:=by simp[Bc,hlen]
       have hp1':∀i,i<ops.size->nI order ops.size i<ops.size/\order[nI order ops.size i]? =some i:=fun i hi=>by
         have:=hp1 i hi;exact⟨this.1,by simpa using this.2⟩
       have hge:∀i,¬i<ops.size->nI order ops.size i=i:=fun i hi=>if_neg hi
       rw[hsz]at hw;refine tG (σ:=nI order ops.size) (fun i=> ?_) (fun i j hij=> ?_) (fun j=> ?_) ops.size _ _ a _ (by simp) (by simp[hsz]) (fun i=> ?_) hw
       . by_cases hi:i<ops.size
         . obtain⟨h1,h2⟩:=hp1' i hi;simp only[Bc,List.getElem?_toArray,List.getElem?_map,h2,Option.map_some];rw[Array.getElem?_eq_getElem hi,Option.map_some];congr 2;simp[hi]
         . rw[hge i hi,Array.getElem?_eq_none (by rw[hsz];omega),Array.getElem?_eq_none (by omega)];rfl
       . by_cases hi:i<ops.size
         . obtain⟨h1,h2⟩:=hp1' i hi;by_cases hj:j<ops.size
           . obtain⟨_,h4⟩:=hp1' j hj;rw[hij,h4]at h2
             cases h2;rfl
           . rw[hge j hj]at hij;omega
         . by_cases hj:j<ops.size
           . obtain⟨h1,_⟩:=hp1' j hj
             rw[hge i hi]at hij;omega
           . rw[hge i hi,hge j hj]at hij;exact hij
       . by_cases hj:j<ops.size
         . have:=hp2 j hj;split at this
           . rename_i i _;simp only[Bool.and_eq_true,beq_iff_eq]at this;exact⟨i,this.2⟩
           . cases this
         . exact⟨j,hge j hj⟩
       . have hz:∀j,(Array.replicate ops.size false).getD j false=false:=fun j=>by
           simp[Array.getElem?_replicate]
           split<;>rfl
         rw[hz,hz]
     . cases hc
end Go.Am
