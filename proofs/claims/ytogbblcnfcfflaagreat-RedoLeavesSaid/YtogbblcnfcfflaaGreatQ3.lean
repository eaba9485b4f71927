/- TEXTS OF THE WALKS, put together: BD3 WK0 BD4 WK1 BD5 LLe. No condition but those stated. -/
import Derived.Test.YtogbblcnfcfflaaGreatKA
import Derived.Test.YtogbblcnfcfflaaGreatQ2
import Derived.Test.YtogbblcnfcfflaaGreatKW
import Derived.Test.YtogbblcnfcfflaaGreatKA2
import Derived.Test.YtogbblcnfcfflaaGreatKX
import Derived.Test.YtogbblcnfcfflaaGreatAmOpen
open Int (reduceEq)
open Nat (reduceEqDiff reduceAdd reduceMul reduceLT reduceLeDiff)
set_option linter.all false
set_option maxHeartbeats 8000000
set_option maxRecDepth 1000000
namespace Go.Proofs.YtogbblcnfcfflaaGreat
open Go Go.Am Go.Rec Go.Ino
theorem dzero_px (r:Int) (H:Heap):pcx (cbL tab) 89 [dirV r,.bool false,.bool true,.bool false] H=some (.plain (.bool true)):=by
 refine pcx_N rfl (pc_wp (fi:=c89) rfl rfl (by simp[c89]) (by decide) ?_)
 unfold c89 dirV
 have e1:∀b,lend (.bool b)= .bool b:=fun _=>rfl
 have e2:lend (.agg [.int .i64 2,.int .i64 1,.int .i64 0,.sl 0 0 [] .z,.int .i64 r,.int .i64 1,.str ⟨#[]⟩])= .agg [.int .i64 2,.int .i64 1,.int .i64 0,.sl 0 0 [] .z,.int .i64 r,.int .i64 1,.str ⟨#[]⟩]:=rfl
 rw[List.map_cons,List.map_cons,List.map_cons,List.map_cons,List.map_nil,e2,e1,e1]
 have sn:∀xo yo,binV .neq .str xo yo (.str ⟨#[]⟩) (.str (ByteArray.mk (Array.mk [])))=some (.bool false):=fun _ _=>by simp[binV,eqV,binStr]
 simp(disch:=omega)only[wk,tupled,↓reduceIte,reduceEqDiff,reduceEq,reduceAdd,reduceCtorEq,Int.reduceToNat,Int.reduceAdd,Int.reduceSub,Int.reduceMul,Int.reduceNeg,Nat.reduceSub,Nat.reduceDiv,sn,runG_un,purify,unownT,lend,unown,AV.hf]
theorem dcheck_px {r:Int} (h1:1<=r) (h2:r<=2047) (H:Heap):pcx (cbL tab) 55 [dirV r] H=some (.plain (.int .i64 0)):=by
 refine pcx_N rfl (pc_wp (fi:=c55) rfl rfl (by simp[c55]) (by decide) ?_)
 unfold c55
 have dz:=fun H=>dzero_px r H
 unfold dirV at dz ⊢
 have e2:lend (.agg [.int .i64 2,.int .i64 1,.int .i64 0,.sl 0 0 [] .z,.int .i64 r,.int .i64 1,.str ⟨#[]⟩])= .agg [.int .i64 2,.int .i64 1,.int .i64 0,.sl 0 0 [] .z,.int .i64 r,.int .i64 1,.str ⟨#[]⟩]:=rfl
 rw[List.map_cons,List.map_nil,e2]
 have h256:(1:Int)<=256:=by decide
 simp(disch:=omega)only[wk,tupled,↓reduceIte,reduceEqDiff,reduceEq,reduceAdd,reduceCtorEq,Int.reduceToNat,Int.reduceAdd,Int.reduceSub,Int.reduceMul,Int.reduceNeg,Nat.reduceSub,Nat.reduceDiv,dz,h1,h2,h256,runG_un,purify,unownT,lend,unown,AV.hf]
theorem dwords_px {r:Int} (h1:1<=r) (h2:r<=2047) (H:Heap):pcx (cbL tab) 27 [dirV r] H=some (.plain (.tup [.sl 1 16 (encs u64A (dirW r)) .ro,.int .i64 0])):=by
 refine pcx_N rfl (pc_wp (fi:=c27) rfl rfl (by simp[c27]) (by decide) ?_)
 unfold c27
 have dc:=fun H=>dcheck_px h1 h2 H
 unfold dirV at dc ⊢
 have e2:lend (.agg [.int .i64 2,.int .i64 1,.int .i64 0,.sl 0 0 [] .z,.int .i64 r,.int .i64 1,.str ⟨#[]⟩])= .agg [.int .i64 2,.int .i64 1,.int .i64 0,.sl 0 0 [] .z,.int .i64 r,.int .i64 1,.str ⟨#[]⟩]:=rfl
 rw[List.map_cons,List.map_nil,e2]
 have mk:madeN 1 8 [.int .u64 0] (.int .i64 16) (.int .i64 16)=some 16:=rfl
 have rz:repL 16 [AV.int .u64 0]=[.int .u64 0,.int .u64 0,.int .u64 0,.int .u64 0,.int .u64 0,.int .u64 0,.int .u64 0,.int .u64 0,.int .u64 0,.int .u64 0,.int .u64 0,.int .u64 0,.int .u64 0,.int .u64 0,.int .u64 0,.int .u64 0]:=rfl
 have fv:floatV [.ptr 0 5] [.ptr 1 2]=true:=rfl
 simp(disch:=omega)only[wk,tupled,↓reduceIte,reduceEqDiff,reduceEq,reduceAdd,reduceCtorEq,Int.reduceToNat,Int.reduceAdd,Int.reduceSub,Int.reduceMul,Int.reduceNeg,Nat.reduceSub,Nat.reduceDiv,dc,mk,rz,fv]
 rfl
def btF (l:List Int) (d:Nat):Bt:=⟨28+d,npF (64*(28+d)) (nodeW (if d=0 then l else [])),1⟩
def Wf (l:List Int):Nat->List Int
 |0=>putW (List.replicate 4096 0) 0 superW
 |d+1=>putW (apW (Wf l d) (btF l d).puts) (576+16*d) (dirW ((28+d:Nat):Int))
def rcF (n0:Nat):Nat->Nat
 |0=>1
 |d+1=>rcF n0 d+nmF n0 0 0 d
theorem npF_len:∀(w:List Int) (a:Nat),(npF a w).length=w.length
 |[],_=>rfl
 |x::r,a=>by rw[npF,List.length_cons,npF_len r];rfl
theorem pcx_of {f:FuncId} {args:List AV} {r:PR} (hl:(cbL tab).lent f=false) (h:(cbL tab).pc f args=some r) (H:Heap):pcx (cbL tab) f args H=some r:=pcx_N hl h
theorem pcx_lend1 {f:FuncId} {v1 v2 x1 x2:AV} {r:PR} (hl:(cbL tab).lent f=false) (hr:reads (tab f)=true) (h:(cbL tab).pc f [x1,x2]=some r) (e1:lend v1=x1) (e2:lend v2=x2) (H:Heap):pcx (cbL tab) f [v1,v2] H=some r:=
 pcx_N hl (pc_lend1 hr (by rw[List.map_cons,List.map_cons,List.map_nil,e1,e2];exact h))
theorem frv_eq (b:Nat) (hb:b<64):slvR 1 i64A (freeF b (64-b))=frV b:=by
 have hl:=freeF_len b (64-b)
 unfold slvR frV
 rw[if_neg (by
   intro h
   rw[List.isEmpty_iff_length_eq_zero,hl]at h
   omega),hl]
theorem stepsF (n0:Nat) (l:List Int) (hp:slvR 2 prA (pairsF 1 n0++twoP 0)= .sl 2 (n0+2) (encs u64A l) .ro) (hb:(cbL tab).pc 26 [.sl 2 (n0+2) (encs u64A l) .ro,frV 28]=some (bldR 28 l)) (hl:l.length<=56):
   Steps n0 0 0 (btF l) superW (fun d=>dirW ((28+d:Nat):Int)) (Wf l) (fun d=>28+d) (rcF n0) where
 form:=pcx_of rfl k_form
 super:=pcx_of rfl k_super
 slen:=rfl
 w0:=rfl
 b0:=rfl
 rc0:=rfl
 ble:=fun d h=>by omega
 build:=fun d hd v1 v2 H e1 e2=>by
   rw[frv_eq _ (by omega)]at e2
   have r0:rcF n0 0=1:=rfl
   rcases d with _|_|_|d
   . exact pcx_lend1 rfl rfl hb (e1.trans hp) e2 H
   . exact pcx_lend1 rfl rfl bld29 e1 e2 H
   . exact pcx_lend1 rfl rfl bld30 e1 e2 H
   . omega
 plen:=fun d=>by
   show(npF _ _).length<=_
   rw[npF_len]
   unfold nodeW
   split<;>simp<;>omega
 dwl:=fun d=>rfl
 words:=fun d hd H=>by
   rcases d with _|_|_|d
   . exact pcx_of rfl k_w28 H
   . exact pcx_of rfl k_w29 H
   . exact pcx_of rfl k_w30 H
   . omega
 wS:=fun d=>rfl
 bS:=fun d=>rfl
 rcS:=fun d=>rfl
 at_:=fun d hd H=>by
   rcases d with _|_|_|d
   . exact pcx_of rfl k_at0 H
   . exact pcx_of rfl k_at1 H
   . exact pcx_of rfl k_at2 H
   . omega
theorem steps4:Steps 2 0 0 (btF prs4) superW (fun d=>dirW ((28+d:Nat):Int)) (Wf prs4) (fun d=>28+d) (rcF 2):=stepsF 2 prs4 rfl bld4 (by decide)
theorem apW_np:∀(w:List Int) (a:Nat) (W:List Int),a+w.length<=W.length->apW W (npF a w)=putW W a w
 |[],a,W,_=>by simp[npF,apW,putW]
 | x::r,a,W,h=>by
   rw[List.length_cons]at h
   have e:apW W (npF a (x::r))=apW (stA W (((a:Nat):Int),x)) (npF (a+1) r):=rfl
   have s:stA W (((a:Nat):Int),x)=W.set a x:=by
     unfold stA
     rw[if_pos ⟨by dsimp only;omega,by dsimp only;omega⟩]
     rfl
   rw[e,s,apW_np r (a+1) (W.set a x) (by rw[List.length_set];omega)]
   unfold putW
   rw[List.length_cons,List.take_set,List.drop_set,if_pos (by omega),show a+1+r.length=a+(r.length+1)from by omega]
   rw[List.take_add_one,List.getElem?_eq_getElem (by omega:a<W.length)]
   rw[List.set_append_right _ _ (by rw[List.length_take];omega)]
   have:a-(W.take a).length=0:=by rw[List.length_take];omega
   rw[this]
   simp
end Go.Proofs.YtogbblcnfcfflaaGreat
namespace Go.Proofs.YtogbblcnfcfflaaGreat
open Go Go.Am Go.Slots Go.Nod Go.Rec
open Go.Ino (i64A)
theorem pairsF_mem {rc:Nat}:∀{n:Nat} {x:Int×Int},x∈pairsF rc n->∃i,i<n/\x=(((3*i+3:Nat):Int),((rc+i:Nat):Int))
 |0,_,h=>by cases h
 | n+1,x,h=>by
   rw[pairsF]at h
   rcases List.mem_append.1 h with h|h
   . obtain⟨i,hi,e⟩:=pairsF_mem h
     exact⟨i,by omega,e⟩
   . exact⟨n,by omega,List.mem_singleton.1 h⟩
theorem pairsF_last {rc:Nat}:∀{n:Nat} {y:Int×Int},(pairsF rc n).getLast? =some y->y.1=3*(n:Int)
 |0,_,h=>by cases h
 | n+1,y,h=>by
   rw[pairsF,List.getLast?_append,List.getLast?_singleton]at h
   simp only[Option.some_or,Option.some.injEq]at h
   rw[<-h]
   dsimp only
   omega
theorem riseM_app:∀(l m pre:List (Int×Int)),riseM pre l->riseM (pre++l) m->riseM pre (l++m)
 |[],m,pre,_,h=>by rwa[List.append_nil]at h
 |x::r,m,pre,⟨a,b,c,d⟩,h=>⟨a,b,c,riseM_app r m (pre++[x]) d (by rw[List.append_assoc];exact h)⟩
theorem riseM_pairs {rc:Nat} (h1:1<=rc) (h2:rc<=1000):∀n,n<=1000->riseM [] (pairsF rc n)
 |0,_=>trivial
 | n+1,hn=>by
   rw[pairsF]
   refine riseM_app _ _ [] (riseM_pairs h1 h2 n (by omega)) ?_
   refine⟨⟨by dsimp only;omega,by dsimp only;omega⟩,fun y hy=> ?_, ?_,trivial⟩
   . rw[pairsF_last hy];dsimp only;omega
   . intro hm
     obtain⟨y,hy,e⟩:=List.mem_map.1 hm
     obtain⟨i,hi,rfl⟩:=pairsF_mem hy
     dsimp only at e
     omega
theorem rise_all {rc n d:Nat} (h1:1<=rc) (h2:rc+n<=61):riseM [] (pairsF rc n++twoP d):=by
 refine riseM_app _ _ [] (riseM_pairs h1 (by omega) n (by omega)) ?_
 unfold twoP
 split
 . refine⟨⟨by decide,by decide⟩,fun y hy=> ?_, ?_,⟨by decide,by decide⟩,fun y hy=> ?_, ?_,trivial⟩
   . rw[pairsF_last hy];dsimp only;omega
   . intro hm
     obtain⟨y,hy,e⟩:=List.mem_map.1 hm
     obtain⟨i,hi,rfl⟩:=pairsF_mem hy
     dsimp only at e
     omega
   . simp only[List.nil_append,List.getLast?_append,List.getLast?_singleton,Option.some_or,Option.some.injEq]at hy
     rw[<-hy];decide
   . intro hm
     obtain⟨y,hy,e⟩:=List.mem_map.1 hm
     rcases List.mem_append.1 hy with hy|hy
     . obtain⟨i,hi,rfl⟩:=pairsF_mem hy
       dsimp only at e
       omega
     . rw[List.mem_singleton.1 hy]at e
       exact absurd e (by decide)
 . trivial
theorem pairs_u {rc n d:Nat} (h2:rc+n<=61):∀x∈pairsF rc n++twoP d,U6 x.1/\U6 x.2:=by
 intro x hx
 rcases List.mem_append.1 hx with hx|hx
 . obtain⟨i,hi,rfl⟩:=pairsF_mem hx
   exact⟨⟨by dsimp only;omega,by dsimp only;omega⟩,⟨by dsimp only;omega,by dsimp only;omega⟩⟩
 . unfold twoP at hx
   split at hx
   . rcases List.mem_cons.1 hx with rfl|hx
     . exact⟨⟨by decide,by decide⟩,⟨by decide,by decide⟩⟩
     . rw[List.mem_singleton.1 hx];exact⟨⟨by decide,by decide⟩,⟨by decide,by decide⟩⟩
   . cases hx
theorem free_u {b:Nat} (hb:1<=b):∀n,b+n<=64->∀x∈freeF b n,1<=x/\x<=63
 |0,_,x,h=>by cases h
 | n+1,hn,x,h=>by
   rw[freeF]at h
   rcases List.mem_append.1 h with h|h
   . exact free_u hb n (by omega) x h
   . rw[List.mem_singleton.1 h];omega
structure BtOk (rc n d b:Nat) (t:Bt):Prop where
 run:(cbL tab).pc 26 [slvR 2 prA (pairsF rc n++twoP d),slvR 1 i64A (freeF b (64-b))]=some (.plain (.tup [.int .i64 ((t.root:Nat):Int),slvR 2 putA t.puts,.int .i64 ((t.used:Nat):Int),.int .i64 0]))
 used:t.used<=5
 root:1<=t.root/\t.root<=63
 plen:t.puts.length<=100000
 pu:∀q∈t.puts,U6 q.2
theorem bt_ex {rc n d b:Nat} (h1:1<=rc) (h2:rc+n<=61) (hb:1<=b) (hb2:b+5<=64):∃t,BtOk rc n d b t:=by
 have lt:(pairsF rc n++twoP d).length<=n+2:=by
   rw[List.length_append,pairsF_len]
   unfold twoP
   split<;>simp
 have hn:needsN (pairsF rc n++twoP d).length<=5:=by unfold needsN;split<;>omega
 obtain⟨r,h3,root,puts,used,rfl,h4,h5,h6,h7⟩:=build_pc (p:=pairsF rc n++twoP d) (fr:=freeF b (64-b)) (rise_all h1 h2) (by omega) (pairs_u h2) (blkM_free (by omega) (by omega)) (by rw[freeF_len];omega) (free_u hb _ (by omega)) (by rw[freeF_len];omega)
 exact⟨⟨root.toNat,puts,used⟩,by rw[show(((⟨root.toNat,puts,used⟩:Bt).root:Nat):Int)=root from by dsimp only;omega];exact h3,by dsimp only;omega,⟨by dsimp only;omega,by dsimp only;omega⟩,h6,h7⟩
open Classical in
noncomputable def btX (rc n d b:Nat):Bt:=if h:∃t,BtOk rc n d b t then h.choose else⟨28,[],0⟩
theorem btX_ok {rc n d b:Nat} (h:∃t,BtOk rc n d b t):BtOk rc n d b (btX rc n d b):=by
 unfold btX
 rw[dif_pos h]
 exact h.choose_spec
theorem btX_small (rc n d b:Nat):(btX rc n d b).used<=5/\(btX rc n d b).puts.length<=100000/\∀q∈(btX rc n d b).puts,U6 q.2:=by
 by_cases h:∃t,BtOk rc n d b t
 . have k:=btX_ok h
   exact⟨k.used,k.plen,k.pu⟩
 . unfold btX
   rw[dif_neg h]
   exact⟨Nat.zero_le _,Nat.zero_le _,fun q h=>by cases h⟩
section
variable (n0 n1 n2:Nat)
def rcG:Nat->Nat
 |0=>1
 |d+1=>rcG d+nmF n0 n1 n2 d
noncomputable def bG:Nat->Nat
 |0=>28
 |d+1=>bG d+(btX (rcG n0 n1 n2 d) (nmF n0 n1 n2 d) d (bG d)).used
noncomputable def btG (d:Nat):Bt:=btX (rcG n0 n1 n2 d) (nmF n0 n1 n2 d) d (bG n0 n1 n2 d)
noncomputable def dwG (d:Nat):List Int:=dirW (((btG n0 n1 n2 d).root:Nat):Int)
noncomputable def WG:Nat->List Int
 |0=>putW (List.replicate 4096 0) 0 superW
 |d+1=>putW (apW (WG d) (btG n0 n1 n2 d).puts) (576+16*d) (dwG n0 n1 n2 d)
theorem bG_le:∀d,28<=bG n0 n1 n2 d/\bG n0 n1 n2 d<=28+5*d
 |0=>⟨Nat.le_refl _,Nat.le_refl _⟩
 | d+1=>by
   have ih:=bG_le d
   have h:=(btX_small (rcG n0 n1 n2 d) (nmF n0 n1 n2 d) d (bG n0 n1 n2 d)).1
   rw[bG]
   omega
variable {n0 n1 n2}
theorem rcG_le (hn:n0+n1+n2<=60):∀d,d<3->1<=rcG n0 n1 n2 d/\rcG n0 n1 n2 d+nmF n0 n1 n2 d<=61
 |0,_=>by simp[rcG,nmF];omega
 |1,_=>by simp[rcG,nmF];omega
 |2,_=>by simp[rcG,nmF];omega
 |d+3,h=>absurd h (by omega)
theorem btG_ok (hn:n0+n1+n2<=60) {d:Nat} (hd:d<3):BtOk (rcG n0 n1 n2 d) (nmF n0 n1 n2 d) d (bG n0 n1 n2 d) (btG n0 n1 n2 d):=by
 obtain⟨h1,h2⟩:=rcG_le hn d hd
 have hb:=bG_le n0 n1 n2 d
 exact btX_ok (bt_ex h1 h2 (by omega) (by omega))
theorem stepsG (hn:n0+n1+n2<=60):Steps n0 n1 n2 (btG n0 n1 n2) superW (dwG n0 n1 n2) (WG n0 n1 n2) (bG n0 n1 n2) (rcG n0 n1 n2) where
 form:=pcx_of rfl k_form
 super:=pcx_of rfl k_super
 slen:=rfl
 w0:=rfl
 b0:=rfl
 rc0:=rfl
 ble:=fun d h=>by have:=bG_le n0 n1 n2 d;omega
 build:=fun d hd v1 v2 H e1 e2=>pcx_lend1 rfl rfl (btG_ok hn hd).run e1 e2 H
 plen:=fun d=>(btX_small _ _ _ _).2.1
 dwl:=fun d=>rfl
 words:=fun d hd H=>by
   have hr:=(btG_ok hn hd).root
   exact dwords_px (by omega) (by omega) H
 wS:=fun d=>rfl
 bS:=fun d=>rfl
 rcS:=fun d=>rfl
 at_:=fun d hd H=>by
   rcases d with _|_|_|d
   . exact pcx_of rfl k_at0 H
   . exact pcx_of rfl k_at1 H
   . exact pcx_of rfl k_at2 H
   . omega
def U6s (W:List Int):Prop:=∀x∈W,U6 x
theorem putW_u {W w:List Int} {a:Nat} (h:U6s W) (k:U6s w):U6s (putW W a w):=by
 intro x hx
 rcases List.mem_append.1 hx with hx|hx
 . rcases List.mem_append.1 hx with hx|hx
   . exact h x (List.mem_of_mem_take hx)
   . exact k x hx
 . exact h x (List.mem_of_mem_drop hx)
theorem apW_u:∀(l:List (Int×Int)) (W:List Int),U6s W->(∀q∈l,U6 q.2)->U6s (apW W l)
 |[],W,h,_=>h
 | q::l,W,h,k=>by
   refine apW_u l (stA W q) ?_ (fun x hx=>k x (List.mem_cons_of_mem _ hx))
   intro x hx
   unfold stA at hx
   split at hx
   . rcases List.mem_or_eq_of_mem_set hx with hx|rfl
     . exact h x hx
     . exact k q (List.mem_cons_self ..)
   . exact h x hx
theorem rep_u (k:Nat):U6s (List.replicate k 0):=fun x hx=>by rw[List.eq_of_mem_replicate hx];exact⟨by decide,by decide⟩
theorem WG_u (hn:n0+n1+n2<=60):∀d,d<=3->U6s (WG n0 n1 n2 d)
 | 0,_=>by
   refine putW_u (rep_u _) ?_
   intro x hx
   rcases List.mem_append.1 hx with hx|hx
   . simp only[List.mem_cons,List.not_mem_nil,or_false]at hx
     unfold U6
     omega
   . exact rep_u _ x hx
 | d+1,h=>by
   have hr:=(btG_ok hn (d:=d) (by omega)).root
   refine putW_u (apW_u _ _ (WG_u hn d (by omega)) (btX_small _ _ _ _).2.2) ?_
   intro x hx
   rcases List.mem_append.1 hx with hx|hx
   . simp only[List.mem_cons,List.not_mem_nil,or_false]at hx
     unfold U6
     omega
   . exact rep_u _ x hx
theorem WG_len (hn:n0+n1+n2<=60):∀d,d<=3->(WG n0 n1 n2 d).length=4096
 |0,_=>by rw[WG,putW_len (by rw[List.length_replicate];decide),List.length_replicate]
 | d+1,h=>by
   have ih:=WG_len hn d (by omega)
   rw[WG,putW_len (by rw[apW_len,ih];show 576+16*d+16<=4096;omega),apW_len,ih]
end
end Go.Proofs.YtogbblcnfcfflaaGreat
namespace Go.Proofs.YtogbblcnfcfflaaGreat
open Go Go.Am Go.Rec Go.Ino
theorem nodeW_len {l:List Int} (h:l.length<=56):(nodeW l).length=64:=by
 unfold nodeW
 simp
 omega
theorem Wf_len (l:List Int) (hl:l.length<=56):∀d,d<=3->(Wf l d).length=4096
 |0,_=>by rw[Wf,putW_len (by rw[List.length_replicate];decide),List.length_replicate]
 | d+1,h=>by
   have ih:=Wf_len l hl d (by omega)
   rw[Wf,putW_len (by rw[apW_len,ih];show 576+16*d+16<=4096;omega),apW_len,ih]
theorem Wf_succ (l:List Int) (hl:l.length<=56) (d:Nat) (h:d<3):Wf l (d+1)=putW (putW (Wf l d) (64*(28+d)) (nodeW (if d=0 then l else []))) (576+16*d) (dirW ((28+d:Nat):Int)):=by
 have hn:(nodeW (if d=0 then l else [])).length=64:=nodeW_len (by split;exact hl;exact Nat.zero_le _)
 rw[Wf,btF,apW_np _ _ _ (by rw[hn,Wf_len l hl d (by omega)];omega)]
theorem W3_eq:Wf prs4 3=W20 prs4:=by
 rw[Wf_succ _ (by decide) 2 (by decide),Wf_succ _ (by decide) 1 (by decide),Wf_succ _ (by decide) 0 (by decide)]
 kernel_rfl
theorem rnum_px (e:Int) (H:Heap):pcx (cbL tab) 13 [.int .i64 e] H=some (.plain (.int .i64 e)):=by
 refine pcx_N rfl (pc_wp (fi:=c13) rfl rfl (by simp[c13]) (by decide) ?_)
 unfold c13
 rw[List.map_cons,List.map_nil,lend_int]
 simp(disch:=omega)only[wk,tupled,↓reduceIte,reduceEqDiff,reduceEq,reduceAdd,reduceCtorEq,purify,unownT,lend,unown,AV.hf]
theorem lendK_piece {H:Heap} {id k off n:Nat} {W:List Int} (h:H[id]? =some (.cells (encs u64A W))) (hn:off+n<=W.length):lendK H (k+1) (.msl 1 id off n)= .sl 1 n (encs u64A ((W.drop off).take n)) .ro:=by
 have l:=lenU W
 have h1:=encs_drop (f:=u64A) W off
 have h2:=encs_take (f:=u64A) (W.drop off) n
 rw[Nat.mul_one]at h1 h2
 rw[lendK]
 simp only[h]
 rw[if_pos (by omega),Nat.mul_one,h1,h2,lendK_u]
theorem lendK_layD (H:Heap) (k:Nat):lendK H (k+2) (.agg layD)= .agg layD:=by
 rw[lendK_agg]
 unfold layD
 simp only[List.map_cons,List.map_nil,lendK_int]
theorem lendK_bool (H:Heap) (k:Nat) (b:Bool):lendK H k (.bool b)= .bool b:=by cases k<;>rfl
def rdC:List AV:= .int .i64 2:: .int .i64 4::(encs u64A (List.replicate 16 0)++[.int .i64 2,.int .i64 1,.int .u64 9,.int .u64 3,.int .i64 1,.bool false])
theorem lendK_red (H:Heap) (k:Nat):lendK H (k+1) (.agg rdC)= .agg rdC:=by
 rw[lendK_agg]
 unfold rdC
 simp only[List.map_cons,List.map_append,List.map_nil,lendK_int,lendK_bool,lendK_u]
theorem r20_eq:r20= .agg rdC:=rfl
theorem again4 {H:Heap} {id:Nat} (h:H[id]? =some (.cells (encs u64A (W20 prs4)))) (hl:(W20 prs4).length=4096):pcx (cbL tab) 14 [.msl 1 id 0 4096,.agg layD,.agg rdC] H=some (.plain (.tup [.sl 0 0 [] .z,.int .i64 0])):=by
 refine pcx_L5 rfl ?_ k_again
 have:=lendK_words (k:=3) h
 rw[hl]at this
 rw[List.map_cons,List.map_cons,List.map_cons,List.map_nil,this,lendK_layD,lendK_red,r20_eq]
theorem again64 {H:Heap} {id:Nat} (h:H[id]? =some (.cells (encs u64A (W20 prs4)))) (hl:(W20 prs4).length=4096):pcx (cbL tab) 14 [.msl 1 id 0 64,.agg layD,.agg rdC] H=some (.plain (.tup [.sl 0 0 [] .z,.int .i64 2])):=by
 refine pcx_L5 rfl ?_ k_again2
 rw[List.map_cons,List.map_cons,List.map_cons,List.map_nil,lendK_piece h (by omega),lendK_layD,lendK_red,r20_eq]
 rfl
theorem leaf4 {H:Heap} {id:Nat} (h:H[id]? =some (.cells (encs u64A (W20 prs4)))) (hl:(W20 prs4).length=4096):pcx (cbL tab) 31 [.msl 1 id 0 4096,.int .i64 320,.int .u64 5] H=some (panJ 320):=by
 unfold pcx
 rw[if_pos (show(cbL tab).lent 31=true from rfl)]
 unfold enterL
 have:=lendK_words (k:=3) h
 rw[hl]at this
 rw[List.map_cons,List.map_cons,List.map_cons,List.map_nil,this,lendK_int,lendK_int,k_leaf]
 rfl
theorem rclear_b (a:Nat) (H:Heap) (x:AV) (hx:H[a]? =some (.cells [x])):enterA (cbL tab) 29 [.ptr a 0] H=some (.ret (.tup []),H.set a (.cells [.int .i64 0])):=by
 have:∃q H',(cbL tab).ic 29 [.ptr a 0] H=some (q,H')/\q= .ret (.tup [])/\H'=H.set a (.cells [.int .i64 0]):=by
   refine ic_wp (fi:=c29) rfl rfl (by simp[c29]) (by decide) ?_
   unfold c29
   simp(disch:=omega)only[wk,tupled,↓reduceIte,reduceEqDiff,reduceEq,reduceAdd,reduceCtorEq,hx,List.append_nil]
 obtain⟨q,H',h,rfl,rfl⟩:=this
 exact enterA_ic rfl (pc_none (fi:=c29) rfl rfl) h
theorem leafw_ic {H:Heap} {id:Nat} (h:H[id]? =some (.cells (encs u64A (W20 prs4)))) (hl:(W20 prs4).length=4096) {N:Nat} (hN:N=4096):
   ∃H',(cbL tab).ic 10 [.msl 1 id 0 N,.int .i64 320,.int .u64 5] H=some (.ret (.tup [.int .i64 0,.int .i64 320]),H')/\(∀i,i<H.length->H'[i]? =H[i]?):=by
 have key:∃o H',(cbL tab).ic 10 [.msl 1 id 0 N,.int .i64 320,.int .u64 5] H=some (o,H')/\o= .ret (.tup [.int .i64 0,.int .i64 320])/\(∀i,i<H.length->H'[i]? =H[i]?):=by
   refine ic_wp (fi:=c10) rfl rfl (by simp[c10]) (by decide) ?_
   unfold c10
   have lf:∀L,pcx (cbL tab) 31 [.msl 1 id 0 4096,.int .i64 320,.int .u64 5] (H++L)=some (panJ 320):=fun L=>leaf4 (by rw[List.getElem?_append_left (List.getElem?_eq_some_iff.1 h).1];exact h) hl
   rw[<-hN]at lf
   unfold panJ at lf
   have mt:=fun e H=>rmust_t e H
   have g0:∀L:List AObj,(H++L)[H.length]? =L[0]? :=fun L=>by rw[List.getElem?_append_right (Nat.le_refl _),Nat.sub_self]
   have gk:∀(L:List AObj) (k:Nat),(H++L)[H.length+k]? =L[k]? :=fun L k=>by rw[List.getElem?_append_right (by omega)];congr 1;omega
   have sk:∀(L:List AObj) (k:Nat) (o:AObj),(H++L).set (H.length+k) o=H++L.set k o:=fun L k o=>by rw[List.set_append_right _ _ (by omega)];congr 2;omega
   have s0:∀(L:List AObj) (o:AObj),(H++L).set H.length o=H++L.set 0 o:=fun L o=>by rw[List.set_append_right _ _ (by omega),Nat.sub_self]
   have r1:(N:Int) % 64=0:=by omega
   have r2:(0:Int)<N:=by omega
   have r3:(320:Int)<N:=by omega
   simp(disch:=omega)only[wk,tupled,↓reduceIte,reduceEqDiff,reduceEq,reduceAdd,reduceCtorEq,List.append_assoc,g0,gk,sk,s0,mt,lf,r1,r2,r3]
   rw[ends_left_pan (rcaught_pan (H.length+1) _ _ _ _ _ _ _ (rclear_b H.length _ (.int .i64 0) (by rw[g0];rfl)) (by rw[s0,gk];rfl))]
   simp(disch:=omega)only[wk,tupled,↓reduceIte,reduceEqDiff,reduceEq,reduceAdd,reduceCtorEq,g0,gk,sk,s0]
   intro i hi
   exact List.getElem?_append_left hi
 obtain⟨o,H',h1,rfl,h2⟩:=key
 exact⟨H',h1,h2⟩
theorem in_made {args:List AV} {H:Heap}:pcx (cbL tab) 7 args H=none:=pcx_none rfl (pc_none (fi:=c7) rfl rfl)
theorem ll_made:(cbL tab).lent 7=false:=rfl
theorem in_Leaf (a b c n:Nat) (x y:AV) (H:Heap):pcx (cbL tab) 10 [.msl a b c n,x,y] H=none:=pcx_none rfl (pc_none (fi:=c10) rfl (by simp[pcOn,c10,hfL,AV.hf,lend,unown]))
theorem ll_Leaf:(cbL tab).lent 10=false:=rfl
theorem W20_len:(W20 prs4).length=4096:=by rw[<-W3_eq];exact Wf_len _ (by decide) 3 (by decide)
theorem rworks_px (H:Heap):pcx (cbL tab) 8 [] H=some (.plain (.bool true)):=by
 refine pcx_N rfl (pc_wp (fi:=c8) rfl rfl (by simp[c8]) (by decide) ?_)
 unfold c8
 rw[List.map_nil]
 obtain⟨H1,id,m1,m2,_,_⟩:=made_ic (H0:=[]) (by intro i s h;simp at h) (by omega) steps4
 rw[W3_eq]at m2
 have hl:=W20_len
 have c2:((2:Nat):Int)=2:=rfl
 have c0:((0:Nat):Int)=0:=rfl
 rw[c2,c0]at m1
 have hid:id<H1.length:=(List.getElem?_eq_some_iff.1 m2).1
 have gi:∀L:List AObj,(H1++L)[id]? =some (.cells (encs u64A (W20 prs4))):=fun L=>by rw[List.getElem?_append_left hid];exact m2
 have ag:=fun L=>again4 (gi L) hl
 have a6:=fun L=>again64 (gi L) hl
 have g0:∀L:List AObj,(H1++L)[H1.length]? =L[0]? :=fun L=>by rw[List.getElem?_append_right (Nat.le_refl _),Nat.sub_self]
 have gk:∀(L:List AObj) (k:Nat),(H1++L)[H1.length+k]? =L[k]? :=fun L k=>by rw[List.getElem?_append_right (by omega)];congr 1;omega
 have sk:∀(L:List AObj) (k:Nat) (o:AObj),(H1++L).set (H1.length+k) o=H1++L.set k o:=fun L k o=>by rw[List.set_append_right _ _ (by omega)];congr 2;omega
 have s0:∀(L:List AObj) (o:AObj),(H1++L).set H1.length o=H1++L.set 0 o:=fun L o=>by rw[List.set_append_right _ _ (by omega),Nat.sub_self]
 have l10:layD.length=10:=rfl
 have o10:allOne layD=true:=rfl
 have t10:List.take 10 layD=layD:=rfl
 have er:rdC=[.int .i64 2,.int .i64 4,.int .u64 0,.int .u64 0,.int .u64 0,.int .u64 0,.int .u64 0,.int .u64 0,.int .u64 0,.int .u64 0,.int .u64 0,.int .u64 0,.int .u64 0,.int .u64 0,.int .u64 0,.int .u64 0,.int .u64 0,.int .u64 0,.int .i64 2,.int .i64 1,.int .u64 9,.int .u64 3,.int .i64 1,.bool false]:=rfl
 obtain⟨N,hN⟩:∃N:Nat,N=4096:=⟨_,rfl⟩
 obtain⟨H2,q1,q2⟩:=leafw_ic (H:=H1++[.cells layD,.cells rdC]) (gi _) hl hN
 rw[er]at ag a6
 have hl2:(H1++[AObj.cells layD,AObj.cells rdC]).length=H1.length+2:=by rw[List.length_append];rfl
 rw[hl2]at q2
 have k0:H2[H1.length]? =some (.cells layD):=by rw[q2 _ (by omega),g0];rfl
 have k1:H2[H1.length+1]? =some (.cells rdC):=by rw[q2 _ (by omega),gk];rfl
 have ki:H2[id]? =some (.cells (encs u64A (W20 prs4))):=by rw[q2 _ (by omega)];exact gi _
 have a62:=again64 ki hl
 rw[er]at q1 k1 a62
 have np:=fun e H=>rnum_px e H
 rw[<-hN]at m1 ag
 have n64:64<=N:=by omega
 have i64':Int.toNat 64=64:=rfl
 generalize hL:layD=L0 at*
 simp(disch:=omega)only[wk,tupled,↓reduceIte,reduceEqDiff,reduceEq,reduceAdd,reduceCtorEq,in_made,runE_none ll_made,m1,List.append_assoc,g0,gk,sk,s0,l10,o10,t10,List.append_nil,ag,in_Leaf,runE_none ll_Leaf,q1,k0,k1,ki,a62,n64,i64',np,purify,unownT,lend,unown,AV.hf]
 done
end Go.Proofs.YtogbblcnfcfflaaGreat
namespace Go.Proofs.YtogbblcnfcfflaaGreat
open Go Go.Am Go.Slots Go.Nod Go.Rec
theorem pc_same {f g:FuncId} {args:List AV} {r:PR} (e:tab f=tab g) (h:(cbL tab).pc f args=some r):(cbL tab).pc g args=some r:=by
 obtain⟨n,hn⟩:=cbL_pc.1 h
 cases n with
 |zero=>cases hn
 | succ n=>
   refine cbL_pc.2 ⟨n+1, ?_⟩
   have hn:pcA tab (cbs tab n) f args=some r:=hn
   show pcA tab (cbs tab n) g args=some r
   unfold pcA at hn ⊢
   rw[<-e]
   exact hn
theorem bent_px {x:AV} {H:Heap} {W:List Int} {t1:Tk} (hx:lendK H 4 x= .sl 1 W.length (encs u64A W) t1) (l:List (Int×Int)) (s:Nat) (tk:Tk) (h0:W≠[]) (hW:W.length<=1000000) (hl:l.length<=1000000) (hs:l≠[]->s=2):
   pcx (cbL tab) 9 [x,.sl s l.length (encs putA l) tk] H=some (.fresh 1 W.length (encs u64A (apW W l))):=by
 unfold pcx
 rw[if_pos (show(cbL tab).lent 9=true from rfl)]
 unfold enterL
 rw[List.map_cons,List.map_cons,List.map_nil,hx,lendK_sl,pc_same (show tab 15=tab 9 from rfl) (apply_pc W l s t1 tk h0 hW hl hs)]
 simp only[scal_u64A,if_true]
def okN (a b c:Int):Prop:=0<=a/\0<=b/\0<=c/\a+b+c<=60
theorem made_no {H0:Heap} {a b c:Int} (h:¬okN a b c) (ha: -9223372036854775808<=a/\a<=9223372036854775807) (hb: -9223372036854775808<=b/\b<=9223372036854775807) (hc: -9223372036854775808<=c/\c<=9223372036854775807):
   ∃H',(cbL tab).ic 7 [.agg [.int .i64 a,.int .i64 b,.int .i64 c]] H0=some (.ret (.tup [.sl 0 0 [] .z,.agg layD,.bool false]),H'):=by
 have key:∃o H',(cbL tab).ic 7 [.agg [.int .i64 a,.int .i64 b,.int .i64 c]] H0=some (o,H')/\o= .ret (.tup [.sl 0 0 [] .z,.agg layD,.bool false]):=by
   refine ic_wp (fi:=c7) rfl rfl (by simp[c7]) (by decide) ?_
   unfold c7
   have g0:∀L:List AObj,(H0++L)[H0.length]? =L[0]? :=fun L=>by rw[List.getElem?_append_right (Nat.le_refl _),Nat.sub_self]
   have gk:∀(L:List AObj) (k:Nat),(H0++L)[H0.length+k]? =L[k]? :=fun L k=>by rw[List.getElem?_append_right (by omega)];congr 1;omega
   have sk:∀(L:List AObj) (k:Nat) (o:AObj),(H0++L).set (H0.length+k) o=H0++L.set k o:=fun L k o=>by rw[List.set_append_right _ _ (by omega)];congr 2;omega
   have fm:∀H,pcx (cbL tab) 24 [.agg [.int .i64 64,.int .i64 8,.int .i64 64,.int .i64 8],.agg [.int .u64 1,.int .u64 2]] H=some (.plain (.tup [.agg layD,.int .i64 0])):=pcx_of rfl k_form
   have l10:layD.length=10:=rfl
   have o10:allOne layD=true:=rfl
   have t10:List.take 10 layD=layD:=rfl
   generalize layD=L0 at*
   have i0:Int.toNat 0=0:=rfl
   have i1:Int.toNat 1=1:=rfl
   have i2:Int.toNat 2=2:=rfl
   have d0:List.drop 10 [AV.int .i64 0,.int .i64 0,.int .i64 0,.int .i64 0,.int .u64 0,.int .u64 0,.int .i64 0,.int .i64 0,.int .i64 0,.int .i64 0]=[]:=rfl
   unfold okN at h
   by_cases h0:a<0
   case pos=>
     simp(disch:=omega)only[wk,tupled,↓reduceIte,reduceEqDiff,reduceEq,reduceAdd,reduceCtorEq,List.append_assoc,g0,gk,sk,fm,l10,o10,t10,i0,i1,i2,d0,runG_un,Nat.zero_add,List.append_nil,h0]
     done
   by_cases h1:b<0
   case pos=>
     simp(disch:=omega)only[wk,tupled,↓reduceIte,reduceEqDiff,reduceEq,reduceAdd,reduceCtorEq,List.append_assoc,g0,gk,sk,fm,l10,o10,t10,i0,i1,i2,d0,runG_un,Nat.zero_add,List.append_nil,h0,h1]
     done
   by_cases h2:c<0
   case pos=>
     simp(disch:=omega)only[wk,tupled,↓reduceIte,reduceEqDiff,reduceEq,reduceAdd,reduceCtorEq,List.append_assoc,g0,gk,sk,fm,l10,o10,t10,i0,i1,i2,d0,runG_un,Nat.zero_add,List.append_nil,h0,h1,h2]
     done
   by_cases h3:60<a
   case pos=>
     simp(disch:=omega)only[wk,tupled,↓reduceIte,reduceEqDiff,reduceEq,reduceAdd,reduceCtorEq,List.append_assoc,g0,gk,sk,fm,l10,o10,t10,i0,i1,i2,d0,runG_un,Nat.zero_add,List.append_nil,h0,h1,h2,h3]
     done
   by_cases h4:60<b
   case pos=>
     simp(disch:=omega)only[wk,tupled,↓reduceIte,reduceEqDiff,reduceEq,reduceAdd,reduceCtorEq,List.append_assoc,g0,gk,sk,fm,l10,o10,t10,i0,i1,i2,d0,runG_un,Nat.zero_add,List.append_nil,h0,h1,h2,h3,h4]
     done
   by_cases h5:60<c
   case pos=>
     simp(disch:=omega)only[wk,tupled,↓reduceIte,reduceEqDiff,reduceEq,reduceAdd,reduceCtorEq,List.append_assoc,g0,gk,sk,fm,l10,o10,t10,i0,i1,i2,d0,runG_un,Nat.zero_add,List.append_nil,h0,h1,h2,h3,h4,h5]
     done
   by_cases h6:60<a+b+c
   case pos=>
     simp(disch:=omega)only[wk,tupled,↓reduceIte,reduceEqDiff,reduceEq,reduceAdd,reduceCtorEq,List.append_assoc,g0,gk,sk,fm,l10,o10,t10,i0,i1,i2,d0,runG_un,Nat.zero_add,List.append_nil,h0,h1,h2,h3,h4,h5,h6]
     done
   exact absurd h (by omega)
 obtain⟨o,H',h,rfl⟩:=key
 exact⟨H',h⟩
theorem ok_words {v:AV} (h:OkS (.slice [.int .i64,.int .u64]) v):∃(l:List (Int×Int)) (tk:Tk),v= .sl 2 l.length (encs putA l) tk/\(tk= .ro∨tk= .z)/\(l.length:Int)<=9223372036854775807/\∀q∈l,U6 q.2:=by
 cases h with
 |slnil _=>exact⟨[],.z,rfl,.inr rfl,by decide,fun q h=>by cases h⟩
 | sl _ rows hm hl hr=>
   have:∀rows:List (List AV),(∀r∈rows,r.length=2)->(∀r∈rows,∀(i:Nat) (s:Sh) (v:AV),[Sh.int .i64,.int .u64][i]? =some s->r[i]? =some v->OkS s v)→
       ∃l:List (Int×Int),rows.flatten=encs putA l/\l.length=rows.length/\∀q∈l,U6 q.2:=by
     intro rows
     induction rows with
     |nil=>intro _ _;exact⟨[],rfl,rfl,fun q h=>by cases h⟩
     | cons r rows ih=>
       intro h1 h2
       obtain⟨l,k1,k2,k3⟩:=ih (fun r hr=>h1 r (List.mem_cons_of_mem _ hr)) (fun r hr=>h2 r (List.mem_cons_of_mem _ hr))
       have hr1:=h1 r (List.mem_cons_self ..)
       have h2:=h2 r (List.mem_cons_self ..)
       match r,hr1 with
       | [v0,v1],_=>
         have o0:=h2 0 _ _ rfl rfl
         have o1:=h2 1 _ _ rfl rfl
         cases o0 with|int _ n0 _ _=>
         cases o1 with|int _ n1 a b=>
         refine⟨(n0,n1)::l,by rw[List.flatten_cons,k1,encs_cons];rfl,by simp[k2],fun q hq=> ?_⟩
         rcases List.mem_cons.1 hq with rfl|hq
         . exact⟨a,Int.lt_of_le_of_lt b (by decide)⟩
         . exact k3 q hq
   obtain⟨l,k1,k2,k3⟩:=this rows hl hr
   exact⟨l,.ro,by rw[k1,k2];rfl,.inl rfl,by omega,k3⟩
theorem inodeAt_px (n:Int) (h0: -1000<=n) (h1:n<=1000) (H:Heap):pcx (cbL tab) 11 [.agg layD,.int .i64 n] H=some (.plain (.int .i64 (576+16*(n-1)))):=by
 refine pcx_N rfl (pc_wp (fi:=c11) rfl rfl (by simp[c11]) (by decide) ?_)
 unfold c11
 have e1:lend (.agg layD)= .agg layD:=rfl
 rw[List.map_cons,List.map_cons,List.map_nil,e1,lend_int]
 have o10:allOne layD=true:=rfl
 have m6:layD[6]? =some (.int .i64 9):=rfl
 generalize layD=L0 at*
 have e2:(64:Int)*9=576:=rfl
 simp(disch:=omega)only[wk,tupled,↓reduceIte,reduceEqDiff,reduceEq,reduceAdd,reduceCtorEq,o10,m6,e2,purify,unownT,lend,unown,AV.hf]
theorem redoLeaves_pc {xs:List AV} {v1 v2 v3:AV} (h0:OkL [.int .i64,.int .i64,.int .i64] xs) (h1:OkS (.slice [.int .i64,.int .u64]) v1) (h2:OkS (.int .i64) v2) (h3:OkS (.int .u64) v3):(cbL tab).pc 3 [.agg xs,v1,v2,v3]=some (.plain (.bool true)):=by
 match xs,h0.1 with
 |[x0,x1,x2],_=>
 have o0:=h0.2 0 _ _ rfl rfl
 have o1:=h0.2 1 _ _ rfl rfl
 have o2:=h0.2 2 _ _ rfl rfl
 cases o0 with|int _ a a1 a2=>
 cases o1 with|int _ b b1 b2=>
 cases o2 with|int _ c c1 c2=>
 cases h2 with|int _ at_ t1 t2=>
 cases h3 with|int _ key k1 k2=>
 obtain⟨l,tk,rfl,htk,hll,hlu⟩:=ok_words h1
 have hf:tk.hf=true:=by rcases htk with rfl|rfl<;>rfl
 have hp:hfL (encs putA l)=true:=hfL_encs (fun _=>rfl) l
 have el:lend (.sl 2 l.length (encs putA l) tk)= .sl 2 l.length (encs putA l) tk:=by rcases htk with rfl|rfl<;>rfl
 have ea:lend (.agg [.int .i64 a,.int .i64 b,.int .i64 c])= .agg [.int .i64 a,.int .i64 b,.int .i64 c]:=rfl
 refine pc_wp (fi:=c3) rfl ?_ (by simp[c3]) (by decide) ?_
 . simp only[pcOn,c3,List.map_cons,List.map_nil,el,ea,lend_int];simp[hfL,AV.hf,hp,hf]
 unfold c3
 rw[List.map_cons,List.map_cons,List.map_cons,List.map_cons,List.map_nil,ea,el,lend_int,lend_int]
 have wk':=rworks_px
 have np:=fun e H=>rnum_px e H
 have l10:layD.length=10:=rfl
 have o10:allOne layD=true:=rfl
 have t10:List.take 10 layD=layD:=rfl
 by_cases hN:okN a b c
 case neg=>
   obtain⟨H1,m1⟩:=made_no (H0:=[.cells [.int .i64 a,.int .i64 b,.int .i64 c]]) hN ⟨a1,a2⟩ ⟨b1,b2⟩ ⟨c1,c2⟩
   have g0:∀L:List AObj,(H1++L)[H1.length]? =L[0]? :=fun L=>by rw[List.getElem?_append_right (Nat.le_refl _),Nat.sub_self]
   have s0:∀(L:List AObj) (o:AObj),(H1++L).set H1.length o=H1++L.set 0 o:=fun L o=>by rw[List.set_append_right _ _ (by omega),Nat.sub_self]
   have d0:List.drop 10 [AV.int .i64 0,.int .i64 0,.int .i64 0,.int .i64 0,.int .u64 0,.int .u64 0,.int .i64 0,.int .i64 0,.int .i64 0,.int .i64 0]=[]:=rfl
   generalize layD=L0 at*
   simp(disch:=omega)only[wk,tupled,↓reduceIte,reduceEqDiff,reduceEq,reduceAdd,reduceCtorEq,in_made,runE_none ll_made,m1,g0,s0,l10,o10,t10,d0,wk',runG_un,List.append_nil,purify,unownT,lend,unown,AV.hf]
   done
 obtain⟨n0,rfl⟩:∃n:Nat,a=((n:Nat):Int):=⟨a.toNat,by have:=hN.1;omega⟩
 obtain⟨n1,rfl⟩:∃n:Nat,b=((n:Nat):Int):=⟨b.toNat,by have:=hN.2.1;omega⟩
 obtain⟨n2,rfl⟩:∃n:Nat,c=((n:Nat):Int):=⟨c.toNat,by have:=hN.2.2.1;omega⟩
 have hn:n0+n1+n2<=60:=by have:=hN.2.2.2;omega
 clear hN
 obtain⟨H1,id,m1,m2,_,_⟩:=made_ic (H0:=[.cells [.int .i64 (n0:Nat),.int .i64 (n1:Nat),.int .i64 (n2:Nat)]]) (by intro i s h;rcases i with _|i<;>simp at h) hn (stepsG hn)
 have lW:=WG_len hn 3 (by decide)
 have uW:=WG_u hn 3 (by decide)
 generalize WG n0 n1 n2 3=W at*
 have hid:id<H1.length:=(List.getElem?_eq_some_iff.1 m2).1
 have g0:∀L:List AObj,(H1++L)[H1.length]? =L[0]? :=fun L=>by rw[List.getElem?_append_right (Nat.le_refl _),Nat.sub_self]
 have s0:∀(L:List AObj) (o:AObj),(H1++L).set H1.length o=H1++L.set 0 o:=fun L o=>by rw[List.set_append_right _ _ (by omega),Nat.sub_self]
 have d0:List.drop 10 [AV.int .i64 0,.int .i64 0,.int .i64 0,.int .i64 0,.int .u64 0,.int .u64 0,.int .i64 0,.int .i64 0,.int .i64 0,.int .i64 0]=[]:=rfl
 obtain⟨N,hNN⟩:∃N:Nat,N=4096:=⟨_,rfl⟩
 by_cases h10:10<l.length
 . have h10':10<(l.length:Int):=by omega
   generalize layD=L0 at*
   rw[<-hNN]at m1
   simp(disch:=omega)only[wk,tupled,↓reduceIte,reduceEqDiff,reduceEq,reduceAdd,reduceCtorEq,in_made,runE_none ll_made,m1,g0,s0,l10,o10,t10,d0,h10',wk',runG_un,List.append_nil,purify,unownT,lend,unown,AV.hf]
   done
 have h10':¬10<(l.length:Int):=by omega
 have bp:pcx (cbL tab) 9 [.msl 1 id 0 4096,.sl 2 l.length (encs putA l) tk] (H1++[.cells layD])=some (.fresh 1 4096 (encs u64A (apW W l))):=by
   have gi:(H1++[AObj.cells layD])[id]? =some (.cells (encs u64A W)):=by rw[List.getElem?_append_left hid];exact m2
   have lk:=lendK_words (k:=3) gi
   rw[lW]at lk
   have:=bent_px (H:=H1++[AObj.cells layD]) (x:= .msl 1 id 0 4096) (W:=W) (t1:= .ro) (by rw[lW];exact lk) l 2 tk (by intro e;rw[e]at lW;cases lW) (by omega) (by omega) (fun _=>rfl)
   rw[lW]at this
   exact this
 have lV:(apW W l).length=4096:=by rw[apW_len,lW]
 have uV:U64s (apW W l):=apW_u l W uW hlu
 generalize apW W l=V at*
 have ia:=fun n h1 h2 H=>inodeAt_px n h1 h2 H
 rw[<-hNN]at m1 bp lV
 have pl:=fun tk htk at_ H=>pleaf_px uV (by omega) (by omega) (by omega) tk htk at_ key H
 have rl:=fun tk htk at_ H=>rleaf_px uV (by omega) (by omega) (by omega) tk htk at_ key H
 rw[lV]at pl rl
 have lVe:=lenU V
 rw[lV]at lVe
 have pl':=fun g at_ H=>pl (.own g) rfl at_ H
 have rl':=fun g at_ H=>rl (.own g) rfl at_ H
 have pn:=fun H=>pleaf_nil key H
 generalize layD=L0 at*
 simp(disch:=omega)only[wk,tupled,↓reduceIte,reduceEqDiff,reduceEq,reduceAdd,reduceCtorEq,in_made,runE_none ll_made,m1,g0,s0,l10,o10,t10,d0,h10',bp,runG_un,List.append_nil]
 have uniq:∀x:Int,(decide (¬x=x))=false:=fun x=>decide_eq_false (fun h=>h rfl)
 refine loop_ind (fun(d:Nat) E df H=>d<=3/\E 2= .int .i64 at_/\E 3= .int .u64 key/\(∃g,E 9= .sl 1 N (encs u64A V) (.own g))/\E 10= .ptr H1.length 0/\E 12= .int .i64 ((d:Nat):Int)/\df=[]/\H[H1.length]? =some (.cells L0))
   (fun d=>3-d) 0 (by decide) (.inl rfl) ⟨by omega,by simp only[en,↓reduceIte,reduceEqDiff],by simp only[en,↓reduceIte,reduceEqDiff],⟨_,by simp only[en,↓reduceIte,reduceEqDiff];rfl⟩,by simp only[en,↓reduceIte,reduceEqDiff],by simp only[en,↓reduceIte,reduceEqDiff];rfl,rfl,by rw[List.append_assoc,g0];rfl⟩ ?_
 intro d E df H ih hP
 obtain⟨hd,E2,E3,⟨g,E9⟩,E10,E12,hdf,hH⟩:=hP
 subst hdf
 by_cases hd3:d<3
 case neg=>
   obtain rfl:d=3:=by omega
   simp(disch:=omega)only[wk,tupled,↓reduceIte,reduceEqDiff,reduceEq,reduceAdd,reduceCtorEq,E2,E3,E9,E10,E12,hH,l10,o10,t10,pl',rl',pn,np,wk',uniq,purify,unownT,lend,unown,AV.hf]
   done
 have ia':=fun H=>ia ((d:Int)+1) (by omega) (by omega) H
 simp(disch:=omega)only[wk,tupled,↓reduceIte,reduceEqDiff,reduceEq,reduceAdd,reduceCtorEq,E2,E3,E9,E10,E12,hH,l10,o10,t10,ia',pl',rl',np,uniq,runG_un]
 refine ih (d+1) _ _ _ (by omega) ?_
 exact⟨by omega,by simp only[en,↓reduceIte,reduceEqDiff,E2],by simp only[en,↓reduceIte,reduceEqDiff,E3],⟨g,by simp only[en,↓reduceIte,reduceEqDiff,E9]⟩,by simp only[en,↓reduceIte,reduceEqDiff,E10],by simp only[en,↓reduceIte,reduceEqDiff],rfl,hH⟩
end Go.Proofs.YtogbblcnfcfflaaGreat
