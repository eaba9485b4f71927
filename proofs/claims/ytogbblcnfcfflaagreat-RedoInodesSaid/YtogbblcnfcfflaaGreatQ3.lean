/- TEXTS OF THE WALKS, put together: WK0 WK1 RL0 LIn. No condition but those stated. -/
import Derived.Test.YtogbblcnfcfflaaGreatKW
import Derived.Test.YtogbblcnfcfflaaGreatKA2
import Derived.Test.YtogbblcnfcfflaaGreatKX
import Derived.Test.YtogbblcnfcfflaaGreatAmOpen
open Int (reduceEq)
open Nat (reduceEqDiff reduceAdd reduceMul reduceLT reduceLeDiff)
set_option linter.all false
set_option maxHeartbeats 8000000
set_option maxRecDepth 1000000
namespace Go.Proofs.YtogbblcnfcfflaaGreat
open Go Go.Am Go.Rec Go.Ino
def btF (l : List Int) (d : Nat) : Bt := ⟨28 + d,npF (64 * (28 + d)) (nodeW (if d = 0 then l else [])),1⟩
def Wf (l : List Int) : Nat -> List Int
 | 0 => putW (List.replicate 4096 0) 0 superW
 | d + 1 => putW (apW (Wf l d) (btF l d).puts) (576 + 16 * d) (dirW ((28 + d : Nat) : Int))
def rcF (n0 : Nat) : Nat -> Nat
 | 0 => 1
 | d + 1 => rcF n0 d + nmF n0 0 0 d
theorem npF_len : ∀ (w : List Int) (a : Nat),(npF a w).length = w.length
 | [],_ => rfl
 | x :: r,a => by rw [npF,List.length_cons,npF_len r]; rfl
theorem pcx_of {f : FuncId} {args : List AV} {r : PR} (hl : (cbL tab).lent f = false) (h : (cbL tab).pc f args = some r) (H : Heap) : pcx (cbL tab) f args H = some r := pcx_N hl h
theorem pcx_lend1 {f : FuncId} {v1 v2 x1 x2 : AV} {r : PR} (hl : (cbL tab).lent f = false) (hr : reads (tab f) = true) (h : (cbL tab).pc f [x1,x2] = some r) (e1 : lend v1 = x1) (e2 : lend v2 = x2) (H : Heap) : pcx (cbL tab) f [v1,v2] H = some r :=
 pcx_N hl (pc_lend1 hr (by rw [List.map_cons,List.map_cons,List.map_nil,e1,e2]; exact h))
theorem frv_eq (b : Nat) (hb : b < 64) : slvR 1 i64A (freeF b (64 - b)) = frV b := by
 have hl := freeF_len b (64 - b)
 unfold slvR frV
 rw [if_neg (by
   intro h
   rw [List.isEmpty_iff_length_eq_zero,hl] at h
   omega),hl]
theorem stepsF (n0 : Nat) (l : List Int) (hp : slvR 2 prA (pairsF 1 n0 ++ twoP 0) = .sl 2 (n0 + 2) (encs u64A l) .ro) (hb : (cbL tab).pc 26 [.sl 2 (n0 + 2) (encs u64A l) .ro,frV 28] = some (bldR 28 l)) (hl : l.length <= 56) :
   Steps n0 0 0 (btF l) superW (fun d => dirW ((28 + d : Nat) : Int)) (Wf l) (fun d => 28 + d) (rcF n0) where
 form := pcx_of rfl k_form
 super := pcx_of rfl k_super
 slen := rfl
 w0 := rfl
 b0 := rfl
 rc0 := rfl
 ble := fun d h => by omega
 build := fun d hd v1 v2 H e1 e2 => by
   rw [frv_eq _ (by omega)] at e2
   have r0 : rcF n0 0 = 1 := rfl
   rcases d with _ | _ | _ | d
   . exact pcx_lend1 rfl rfl hb (e1.trans hp) e2 H
   . exact pcx_lend1 rfl rfl bld29 e1 e2 H
   . exact pcx_lend1 rfl rfl bld30 e1 e2 H
   . omega
 plen := fun d => by
   show (npF _ _).length <= _
   rw [npF_len]
   unfold nodeW
   split <;> simp <;> omega
 dwl := fun d => rfl
 words := fun d hd H => by
   rcases d with _ | _ | _ | d
   . exact pcx_of rfl k_w28 H
   . exact pcx_of rfl k_w29 H
   . exact pcx_of rfl k_w30 H
   . omega
 wS := fun d => rfl
 bS := fun d => rfl
 rcS := fun d => rfl
 at_ := fun d hd H => by
   rcases d with _ | _ | _ | d
   . exact pcx_of rfl k_at0 H
   . exact pcx_of rfl k_at1 H
   . exact pcx_of rfl k_at2 H
   . omega
theorem steps4 : Steps 2 0 0 (btF prs4) superW (fun d => dirW ((28 + d : Nat) : Int)) (Wf prs4) (fun d => 28 + d) (rcF 2) := stepsF 2 prs4 rfl bld4 (by decide)
theorem steps2 : Steps 0 0 0 (btF prs2) superW (fun d => dirW ((28 + d : Nat) : Int)) (Wf prs2) (fun d => 28 + d) (rcF 0) := stepsF 0 prs2 rfl bld2 (by decide)
theorem apW_np : ∀ (w : List Int) (a : Nat) (W : List Int),a + w.length <= W.length -> apW W (npF a w) = putW W a w
 | [],a,W,_ => by simp [npF,apW,putW]
 | x :: r,a,W,h => by
   rw [List.length_cons] at h
   have e : apW W (npF a (x :: r)) = apW (stA W (((a : Nat) : Int),x)) (npF (a + 1) r) := rfl
   have s : stA W (((a : Nat) : Int),x) = W.set a x := by
     unfold stA
     rw [if_pos ⟨by dsimp only; omega,by dsimp only; omega⟩]
     rfl
   rw [e,s,apW_np r (a + 1) (W.set a x) (by rw [List.length_set]; omega)]
   unfold putW
   rw [List.length_cons,List.take_set,List.drop_set,if_pos (by omega),show a + 1 + r.length = a + (r.length + 1) from by omega]
   rw [List.take_add_one,List.getElem?_eq_getElem (by omega : a < W.length)]
   rw [List.set_append_right _ _ (by rw [List.length_take]; omega)]
   have : a - (W.take a).length = 0 := by rw [List.length_take]; omega
   rw [this]
   simp
theorem nodeW_len {l : List Int} (h : l.length <= 56) : (nodeW l).length = 64 := by
 unfold nodeW
 simp
 omega
theorem Wf_len (l : List Int) (hl : l.length <= 56) : ∀ d,d <= 3 -> (Wf l d).length = 4096
 | 0,_ => by rw [Wf,putW_len (by rw [List.length_replicate]; decide),List.length_replicate]
 | d + 1,h => by
   have ih := Wf_len l hl d (by omega)
   rw [Wf,putW_len (by rw [apW_len,ih]; show 576 + 16 * d + 16 <= 4096; omega),apW_len,ih]
theorem Wf_succ (l : List Int) (hl : l.length <= 56) (d : Nat) (h : d < 3) : Wf l (d + 1) = putW (putW (Wf l d) (64 * (28 + d)) (nodeW (if d = 0 then l else []))) (576 + 16 * d) (dirW ((28 + d : Nat) : Int)) := by
 have hn : (nodeW (if d = 0 then l else [])).length = 64 := nodeW_len (by split; exact hl; exact Nat.zero_le _)
 rw [Wf,btF,apW_np _ _ _ (by rw [hn,Wf_len l hl d (by omega)]; omega)]
theorem W3_eq : Wf prs4 3 = W20 prs4 := by
 rw [Wf_succ _ (by decide) 2 (by decide),Wf_succ _ (by decide) 1 (by decide),Wf_succ _ (by decide) 0 (by decide)]
 kernel_rfl
theorem rnum_px (e : Int) (H : Heap) : pcx (cbL tab) 13 [.int .i64 e] H = some (.plain (.int .i64 e)) := by
 refine pcx_N rfl (pc_wp (fi := c13) rfl rfl (by simp [c13]) (by decide) ?_)
 unfold c13
 rw [List.map_cons,List.map_nil,lend_int]
 simp (disch := omega) only [wk,tupled,↓reduceIte,reduceEqDiff,reduceEq,reduceAdd,reduceCtorEq,purify,unownT,lend,unown,AV.hf]
theorem lendK_piece {H : Heap} {id k off n : Nat} {W : List Int} (h : H[id]? = some (.cells (encs u64A W))) (hn : off + n <= W.length) : lendK H (k + 1) (.msl 1 id off n) = .sl 1 n (encs u64A ((W.drop off).take n)) .ro := by
 have l := lenU W
 have h1 := encs_drop (f := u64A) W off
 have h2 := encs_take (f := u64A) (W.drop off) n
 rw [Nat.mul_one] at h1 h2
 rw [lendK]
 simp only [h]
 rw [if_pos (by omega),Nat.mul_one,h1,h2,lendK_u]
theorem lendK_layD (H : Heap) (k : Nat) : lendK H (k + 2) (.agg layD) = .agg layD := by
 rw [lendK_agg]
 unfold layD
 simp only [List.map_cons,List.map_nil,lendK_int]
theorem lendK_bool (H : Heap) (k : Nat) (b : Bool) : lendK H k (.bool b) = .bool b := by cases k <;> rfl
theorem lendK_red (H : Heap) (k : Nat) (r : Redo) : lendK H (k + 1) (.agg (redA r)) = .agg (redA r) := by
 rw [lendK_agg]
 unfold redA
 simp only [List.map_cons,List.map_append,List.map_nil,lendK_int,lendK_bool,lendK_u]
def rd20 : Redo := ⟨2,4,List.replicate 16 0,2,1,9,3,1,false⟩
theorem r20_eq : r20 = .agg (redA rd20) := rfl
theorem again4 {H : Heap} {id : Nat} (h : H[id]? = some (.cells (encs u64A (W20 prs4)))) (hl : (W20 prs4).length = 4096) : pcx (cbL tab) 14 [.msl 1 id 0 4096,.agg layD,.agg (redA rd20)] H = some (.plain (.tup [.sl 0 0 [] .z,.int .i64 0])) := by
 refine pcx_L5 rfl ?_ k_again
 have := lendK_words (k := 3) h
 rw [hl] at this
 rw [List.map_cons,List.map_cons,List.map_cons,List.map_nil,this,lendK_layD,lendK_red,r20_eq]
theorem again64 {H : Heap} {id : Nat} (h : H[id]? = some (.cells (encs u64A (W20 prs4)))) (hl : (W20 prs4).length = 4096) : pcx (cbL tab) 14 [.msl 1 id 0 64,.agg layD,.agg (redA rd20)] H = some (.plain (.tup [.sl 0 0 [] .z,.int .i64 2])) := by
 refine pcx_L5 rfl ?_ k_again2
 rw [List.map_cons,List.map_cons,List.map_cons,List.map_nil,lendK_piece h (by omega),lendK_layD,lendK_red,r20_eq]
 rfl
theorem leaf4 {H : Heap} {id : Nat} (h : H[id]? = some (.cells (encs u64A (W20 prs4)))) (hl : (W20 prs4).length = 4096) : pcx (cbL tab) 31 [.msl 1 id 0 4096,.int .i64 320,.int .u64 5] H = some (panJ 320) := by
 unfold pcx
 rw [if_pos (show (cbL tab).lent 31 = true from rfl)]
 unfold enterL
 have := lendK_words (k := 3) h
 rw [hl] at this
 rw [List.map_cons,List.map_cons,List.map_cons,List.map_nil,this,lendK_int,lendK_int,k_leaf]
 rfl
theorem rclear_b (a : Nat) (H : Heap) (x : AV) (hx : H[a]? = some (.cells [x])) : enterA (cbL tab) 29 [.ptr a 0] H = some (.ret (.tup []),H.set a (.cells [.int .i64 0])) := by
 have : ∃ q H',(cbL tab).ic 29 [.ptr a 0] H = some (q,H') /\ q = .ret (.tup []) /\ H' = H.set a (.cells [.int .i64 0]) := by
   refine ic_wp (fi := c29) rfl rfl (by simp [c29]) (by decide) ?_
   unfold c29
   simp (disch := omega) only [wk,tupled,↓reduceIte,reduceEqDiff,reduceEq,reduceAdd,reduceCtorEq,hx,List.append_nil]
 obtain ⟨q,H',h,rfl,rfl⟩ := this
 exact enterA_ic rfl (pc_none (fi := c29) rfl rfl) h
theorem leafw_ic {H : Heap} {id : Nat} (h : H[id]? = some (.cells (encs u64A (W20 prs4)))) (hl : (W20 prs4).length = 4096) {N : Nat} (hN : N = 4096) :
   ∃ H',(cbL tab).ic 10 [.msl 1 id 0 N,.int .i64 320,.int .u64 5] H = some (.ret (.tup [.int .i64 0,.int .i64 320]),H') /\ (∀ i,i < H.length -> H'[i]? = H[i]?) := by
 have key : ∃ o H',(cbL tab).ic 10 [.msl 1 id 0 N,.int .i64 320,.int .u64 5] H = some (o,H') /\ o = .ret (.tup [.int .i64 0,.int .i64 320]) /\ (∀ i,i < H.length -> H'[i]? = H[i]?) := by
   refine ic_wp (fi := c10) rfl rfl (by simp [c10]) (by decide) ?_
   unfold c10
   have lf : ∀ L,pcx (cbL tab) 31 [.msl 1 id 0 4096,.int .i64 320,.int .u64 5] (H ++ L) = some (panJ 320) := fun L => leaf4 (by rw [List.getElem?_append_left (List.getElem?_eq_some_iff.1 h).1]; exact h) hl
   rw [<- hN] at lf
   unfold panJ at lf
   have mt := fun e H => rmust_t e H
   have g0 : ∀ L : List AObj,(H ++ L)[H.length]? = L[0]? := fun L => by rw [List.getElem?_append_right (Nat.le_refl _),Nat.sub_self]
   have gk : ∀ (L : List AObj) (k : Nat),(H ++ L)[H.length + k]? = L[k]? := fun L k => by rw [List.getElem?_append_right (by omega)]; congr 1; omega
   have sk : ∀ (L : List AObj) (k : Nat) (o : AObj),(H ++ L).set (H.length + k) o = H ++ L.set k o := fun L k o => by rw [List.set_append_right _ _ (by omega)]; congr 2; omega
   have s0 : ∀ (L : List AObj) (o : AObj),(H ++ L).set H.length o = H ++ L.set 0 o := fun L o => by rw [List.set_append_right _ _ (by omega),Nat.sub_self]
   have r1 : (N : Int) % 64 = 0 := by omega
   have r2 : (0 : Int) < N := by omega
   have r3 : (320 : Int) < N := by omega
   simp (disch := omega) only [wk,tupled,↓reduceIte,reduceEqDiff,reduceEq,reduceAdd,reduceCtorEq,List.append_assoc,g0,gk,sk,s0,mt,lf,r1,r2,r3]
   rw [ends_left_pan (rcaught_pan (H.length + 1) _ _ _ _ _ _ _ (rclear_b H.length _ (.int .i64 0) (by rw [g0]; rfl)) (by rw [s0,gk]; rfl))]
   simp (disch := omega) only [wk,tupled,↓reduceIte,reduceEqDiff,reduceEq,reduceAdd,reduceCtorEq,g0,gk,sk,s0]
   intro i hi
   exact List.getElem?_append_left hi
 obtain ⟨o,H',h1,rfl,h2⟩ := key
 exact ⟨H',h1,h2⟩
theorem in_made {args : List AV} {H : Heap} : pcx (cbL tab) 7 args H = none := pcx_none rfl (pc_none (fi := c7) rfl rfl)
theorem ll_made : (cbL tab).lent 7 = false := rfl
theorem in_Leaf (a b c n : Nat) (x y : AV) (H : Heap) : pcx (cbL tab) 10 [.msl a b c n,x,y] H = none := pcx_none rfl (pc_none (fi := c10) rfl (by simp [pcOn,c10,hfL,AV.hf,lend,unown]))
theorem ll_Leaf : (cbL tab).lent 10 = false := rfl
theorem W20_len : (W20 prs4).length = 4096 := by rw [<- W3_eq]; exact Wf_len _ (by decide) 3 (by decide)
theorem rworks_px (H : Heap) : pcx (cbL tab) 8 [] H = some (.plain (.bool true)) := by
 refine pcx_N rfl (pc_wp (fi := c8) rfl rfl (by simp [c8]) (by decide) ?_)
 unfold c8
 rw [List.map_nil]
 obtain ⟨H1,id,m1,m2,_,_⟩ := made_ic (H0 := []) (by intro i s h; simp at h) (by omega) steps4
 rw [W3_eq] at m2
 have hl := W20_len
 have c2 : ((2 : Nat) : Int) = 2 := rfl
 have c0 : ((0 : Nat) : Int) = 0 := rfl
 rw [c2,c0] at m1
 have hid : id < H1.length := (List.getElem?_eq_some_iff.1 m2).1
 have gi : ∀ L : List AObj,(H1 ++ L)[id]? = some (.cells (encs u64A (W20 prs4))) := fun L => by rw [List.getElem?_append_left hid]; exact m2
 have ag := fun L => again4 (gi L) hl
 have a6 := fun L => again64 (gi L) hl
 have g0 : ∀ L : List AObj,(H1 ++ L)[H1.length]? = L[0]? := fun L => by rw [List.getElem?_append_right (Nat.le_refl _),Nat.sub_self]
 have gk : ∀ (L : List AObj) (k : Nat),(H1 ++ L)[H1.length + k]? = L[k]? := fun L k => by rw [List.getElem?_append_right (by omega)]; congr 1; omega
 have sk : ∀ (L : List AObj) (k : Nat) (o : AObj),(H1 ++ L).set (H1.length + k) o = H1 ++ L.set k o := fun L k o => by rw [List.set_append_right _ _ (by omega)]; congr 2; omega
 have s0 : ∀ (L : List AObj) (o : AObj),(H1 ++ L).set H1.length o = H1 ++ L.set 0 o := fun L o => by rw [List.set_append_right _ _ (by omega),Nat.sub_self]
 have l10 : layD.length = 10 := rfl
 have o10 : allOne layD = true := rfl
 have t10 : List.take 10 layD = layD := rfl
 have er : redA rd20 = [.int .i64 2,.int .i64 4,.int .u64 0,.int .u64 0,.int .u64 0,.int .u64 0,.int .u64 0,.int .u64 0,.int .u64 0,.int .u64 0,.int .u64 0,.int .u64 0,.int .u64 0,.int .u64 0,.int .u64 0,.int .u64 0,.int .u64 0,.int .u64 0,.int .i64 2,.int .i64 1,.int .u64 9,.int .u64 3,.int .i64 1,.bool false] := rfl
 obtain ⟨N,hN⟩ : ∃ N : Nat,N = 4096 := ⟨_,rfl⟩
 obtain ⟨H2,q1,q2⟩ := leafw_ic (H := H1 ++ [.cells layD,.cells (redA rd20)]) (gi _) hl hN
 rw [er] at ag a6
 have hl2 : (H1 ++ [AObj.cells layD,AObj.cells (redA rd20)]).length = H1.length + 2 := by rw [List.length_append]; rfl
 rw [hl2] at q2
 have k0 : H2[H1.length]? = some (.cells layD) := by rw [q2 _ (by omega),g0]; rfl
 have k1 : H2[H1.length + 1]? = some (.cells (redA rd20)) := by rw [q2 _ (by omega),gk]; rfl
 have ki : H2[id]? = some (.cells (encs u64A (W20 prs4))) := by rw [q2 _ (by omega)]; exact gi _
 have a62 := again64 ki hl
 rw [er] at q1 k1 a62
 have np := fun e H => rnum_px e H
 rw [<- hN] at m1 ag
 have n64 : 64 <= N := by omega
 have i64' : Int.toNat 64 = 64 := rfl
 generalize hL : layD = L0 at *
 simp (disch := omega) only [wk,tupled,↓reduceIte,reduceEqDiff,reduceEq,reduceAdd,reduceCtorEq,in_made,runE_none ll_made,m1,List.append_assoc,g0,gk,sk,s0,l10,o10,t10,List.append_nil,ag,in_Leaf,runE_none ll_Leaf,q1,k0,k1,ki,a62,n64,i64',np,purify,unownT,lend,unown,AV.hf]
 done
def i8 : List Sh := [.int .i64,.int .i64,.int .u64,.int .u64,.int .u64,.int .u64,.int .u64,.int .u64,.int .u64,.int .u64,.int .u64,.int .u64,.int .u64,.int .u64,.int .u64,.int .u64,.int .u64,.int .u64,.int .i64,.int .i64,.int .u64,.int .u64,.int .i64,.bool]
theorem okL_u : ∀ (k : Nat) (M : List Sh) (xs : List AV),OkL (List.replicate k (.int .u64) ++ M) xs -> ∃ (ws : List Int) (ys : List AV),xs = encs u64A ws ++ ys /\ ws.length = k /\ (∀ x ∈ ws,U64 x) /\ OkL M ys
 | 0,M,xs,h => ⟨[],xs,rfl,rfl,fun _ h => by simp at h,h⟩
 | k + 1,M,[],h => by have := h.1; simp only [List.length_nil,List.length_append,List.length_replicate] at this; omega
 | k + 1,M,v :: r,h => by
   obtain ⟨hl,hi⟩ := h
   have h0 := hi 0 (.int .u64) v (by simp [List.replicate_succ]) rfl
   obtain ⟨ws,ys,k1,k2,k3,k4⟩ := okL_u k M r ⟨by simpa [List.replicate_succ] using hl,fun i s x hs hx => hi (i + 1) s x (by rw [List.replicate_succ,List.cons_append,List.getElem?_cons_succ]; exact hs) (by rw [List.getElem?_cons_succ]; exact hx)⟩
   cases h0 with
   | int _ n b1 b2 =>
     have b1 : 0 <= n := b1
     have b2 : n <= 18446744073709551615 := b2
     refine ⟨n :: ws,ys,by rw [k1,encs_cons]; rfl,by simp [k2],fun x hx => ?_,k4⟩
     rcases List.mem_cons.1 hx with rfl | hx
     . exact ⟨b1,by omega⟩
     . exact k3 x hx
theorem okL_redo {l : List AV} (h0 : OkL i8 l) : ∃ r : Redo,l = redA r /\ RedT r := by
 have em : IntKind.u64.min = 0 := rfl
 have ex : IntKind.u64.max = 18446744073709551615 := by decide
 have em' : IntKind.i64.min = -9223372036854775808 := by decide
 have ex' : IntKind.i64.max = 9223372036854775807 := by decide
 obtain ⟨hl,h⟩ := h0
 match l,hl with
 | a0 :: a1 :: t,hl =>
   have o0 := h 0 (.int .i64) _ rfl rfl
   have o1 := h 1 (.int .i64) _ rfl rfl
   have ht : OkL (List.replicate 16 (.int .u64) ++ [.int .i64,.int .i64,.int .u64,.int .u64,.int .i64,.bool]) t :=
     ⟨by simpa [i8] using hl,fun i s x hs hx => h (i + 2) s x (by rw [show i8 = .int .i64 :: .int .i64 :: (List.replicate 16 (.int .u64) ++ [.int .i64,.int .i64,.int .u64,.int .u64,.int .i64,.bool]) from rfl,List.getElem?_cons_succ,List.getElem?_cons_succ]; exact hs) (by rw [List.getElem?_cons_succ,List.getElem?_cons_succ]; exact hx)⟩
   obtain ⟨ws,ys,rfl,k2,k3,hl2,k4⟩ := okL_u 16 _ t ht
   match ys,hl2 with
   | [b0,b1,b2,b3,b4,b5],_ =>
     have p0 := k4 0 _ _ rfl rfl
     have p1 := k4 1 _ _ rfl rfl
     have p2 := k4 2 _ _ rfl rfl
     have p3 := k4 3 _ _ rfl rfl
     have p4 := k4 4 _ _ rfl rfl
     have p5 := k4 5 _ _ rfl rfl
     cases o0 with | int _ n0 c0 d0 =>
     cases o1 with | int _ n1 c1 d1 =>
     cases p0 with | int _ n2 c2 d2 =>
     cases p1 with | int _ n3 c3 d3 =>
     cases p2 with | int _ n4 c4 d4 =>
     cases p3 with | int _ n5 c5 d5 =>
     cases p4 with | int _ n6 c6 d6 =>
     cases p5 with | bool b =>
     rw [em] at c4 c5
     rw [ex] at d4 d5
     rw [em'] at c0 c1 c2 c3 c6
     rw [ex'] at d0 d1 d2 d3 d6
     exact ⟨⟨n0,n1,ws,n2,n3,n4,n5,n6,b⟩,rfl,⟨c0,by show n0 < _; omega,c1,by show n1 < _; omega,k2,k3,c2,by show n2 < _; omega,c3,by show n3 < _; omega,⟨c4,by show n4 < _; omega⟩,⟨c5,by show n5 < _; omega⟩,c6,by show n6 < _; omega⟩⟩
def a16 : List Sh := List.replicate 16 (.int .u64)
theorem inodeAt_px (n : Int) (h0 : -1000 <= n) (h1 : n <= 1000) (H : Heap) : pcx (cbL tab) 11 [.agg layD,.int .i64 n] H = some (.plain (.int .i64 (576 + 16 * (n - 1)))) := by
 refine pcx_N rfl (pc_wp (fi := c11) rfl rfl (by simp [c11]) (by decide) ?_)
 unfold c11
 have e1 : lend (.agg layD) = .agg layD := rfl
 rw [List.map_cons,List.map_cons,List.map_nil,e1,lend_int]
 have o10 : allOne layD = true := rfl
 have m6 : layD[6]? = some (.int .i64 9) := rfl
 generalize layD = L0 at *
 have e2 : (64 : Int) * 9 = 576 := rfl
 simp (disch := omega) only [wk,tupled,↓reduceIte,reduceEqDiff,reduceEq,reduceAdd,reduceCtorEq,o10,m6,e2,purify,unownT,lend,unown,AV.hf]
theorem again1_px {r : Redo} (ht : RedT r) (hk : r.k = 1) {W : List Int} (hW : W.length = 4096) {n : Nat} (hn : n < 8) (hi : r.i = ((n + 1 : Nat) : Int)) {H : Heap} {id : Nat} (h : H[id]? = some (.cells (encs u64A W))) :
   pcx (cbL tab) 14 [.msl 1 id 0 4096,.agg layD,.agg (redA r)] H = some (.plain (.tup [slvR 2 putA (if errJ r = 0 then dI W (576 + 16 * n) 0 r.ws else []),.int .i64 (errJ r)])) := by
 refine pcx_L5 rfl ?_ (again_1 ht hk hW hn hi)
 have := lendK_words (k := 3) h
 rw [hW] at this
 rw [List.map_cons,List.map_cons,List.map_cons,List.map_nil,this,lendK_layD,lendK_red]
theorem apW_stW : ∀ (l : List (Int × Int)) (W : List Int),(∀ p ∈ l,0 <= p.1 /\ p.1 < W.length) -> apW W l = stW W l
 | [],_,_ => rfl
 | p :: l,W,h => by
   have e1 : apW W (p :: l) = apW (stA W p) l := rfl
   have e2 : stW W (p :: l) = stW (W.set p.1.toNat p.2) l := rfl
   have e3 : stA W p = W.set p.1.toNat p.2 := if_pos (h p (List.mem_cons_self ..))
   rw [e1,e2,e3,apW_stW l _ (fun q hq => by rw [List.length_set]; exact h q (List.mem_cons_of_mem _ hq))]
theorem again1_own {r : Redo} (ht : RedT r) (hk : r.k = 1) {W : List Int} (hW : W.length = 4096) {n : Nat} (hn : n < 8) (hi : r.i = ((n + 1 : Nat) : Int)) (g : Nat) (H : Heap) :
   pcx (cbL tab) 14 [.sl 1 4096 (encs u64A W) (.own g),.agg layD,.agg (redA r)] H = some (.plain (.tup [slvR 2 putA (if errJ r = 0 then dI W (576 + 16 * n) 0 r.ws else []),.int .i64 (errJ r)])) := by
 have h := again_1 ht hk hW hn hi
 refine pcx_L5 rfl ?_ (pc_lend1 (args := [.sl 1 4096 (encs u64A W) (.own g),.agg layD,.agg (redA r)]) rfl (by rw [List.map_cons,List.map_cons,List.map_cons,List.map_nil,lend_redV]; exact h))
 rw [List.map_cons,List.map_cons,List.map_cons,List.map_nil,lendK_sl,lendK_layD,lendK_red]
theorem kof_left (D : Nat) (left : Int) : ∃ K : Nat,K <= D /\ (if 0 < (if (D : Int) < left then (D : Int) else left) then (if (D : Int) < left then (D : Int) else left) else 0) = (K : Int) := by
 by_cases h : (D : Int) < left
 . refine ⟨D,Nat.le_refl _, ?_⟩
   rw [if_pos h]
   split <;> omega
 . rw [if_neg h]
   by_cases h2 : 0 < left
   . exact ⟨left.toNat,by omega,by rw [if_pos h2]; omega⟩
   . exact ⟨0,by omega,by rw [if_neg h2]; rfl⟩
theorem redoInodes_pc {xs rs : List AV} {lv : AV} (h0 : OkL a16 xs) (h1 : OkL i8 rs) (h2 : OkS (.int .i64) lv) : (cbL tab).pc 4 [.agg xs,.agg rs,lv] = some (.plain (.bool true)) := by
 obtain ⟨was,ys,rfl,hwl,hwu,hys⟩ := okL_u 16 [] xs (by rw [List.append_nil]; exact h0)
 obtain rfl : ys = [] := List.length_eq_zero_iff.1 hys.1
 rw [List.append_nil]
 obtain ⟨r,rfl,ht⟩ := okL_redo h1
 cases h2 with | int _ left l1 l2 =>
 have la : lend (.agg (encs u64A was)) = .agg (encs u64A was) := by
   show AV.agg ((encs u64A was).map unown) = _
   have : ∀ l : List Int,(encs u64A l).map unown = encs u64A l := by
     intro l
     induction l with
     | nil => rfl
     | cons x r ih => rw [encs_cons,List.map_append,ih]; rfl
   rw [this]
 have hfw : (AV.agg (encs u64A was)).hf = true := hf_u64A was
 refine pc_wp (fi := c4) rfl ?_ (by simp [c4]) (by decide) ?_
 . simp only [pcOn,List.map_cons,List.map_nil,hfL,hf_lend_sl,hf_lend_int,hf_lend_bool,hf_lend_str,hfL_append,Bool.and_self,Bool.and_true,Bool.true_and,c4,lend_redV,hf_redV,la,hfw]
 rw [List.map_cons,List.map_cons,List.map_cons,List.map_nil,la,lend_redV,lend_int]
 unfold c4
 obtain ⟨H1,id,m1,m2,m3,m4⟩ := made_ic (H0 := [.cells (encs u64A was),.cells (redA r)]) (by
   intro i s h
   rcases i with _ | _ | i
   . cases h
   . cases h
   . simp at h) (by omega) steps2
 have c0 : ((0 : Nat) : Int) = 0 := rfl
 rw [c0] at m1
 have k0 : H1[0]? = some (.cells (encs u64A was)) := m3 0 (by simp)
 have k1 : H1[1]? = some (.cells (redA r)) := m3 1 (by simp)
 have hid : id < H1.length := (List.getElem?_eq_some_iff.1 m2).1
 have h1l : 1 < H1.length := (List.getElem?_eq_some_iff.1 k1).1
 obtain ⟨W3,hW3⟩ : ∃ W3,W3 = Wf prs2 3 := ⟨_,rfl⟩
 rw [<- hW3] at m2
 have w3 : W3.length = 4096 := by rw [hW3]; exact Wf_len _ (by decide) 3 (by decide)
 have wks := fun H => rworks_px H
 have np := fun e H => rnum_px e H
 have ow := one_u64A was
 have lw : (encs u64A was).length = 16 := by rw [lenU,hwl]
 have orr := redOne0 r
 have rt : List.take 24 (redA r) = redA r := List.take_of_length_le (by simp [redA,lenU,ht.wl])
 have r24 : (redA r).length = 24 := by simp [redA,lenU,ht.wl]
 have rk : (redA r)[0]? = some (.int .i64 r.k) := rfl
 have ri : (redA r)[1]? = some (.int .i64 r.i) := rfl
 have l10 : layD.length = 10 := rfl
 have o10 : allOne layD = true := rfl
 have t10 : List.take 10 layD = layD := rfl
 have g0 : ∀ L : List AObj,(H1 ++ L)[H1.length]? = L[0]? := fun L => by rw [List.getElem?_append_right (Nat.le_refl _),Nat.sub_self]
 have gl : ∀ (L : List AObj) (i : Nat),i < H1.length -> (H1 ++ L)[i]? = H1[i]? := fun L i hi => List.getElem?_append_left hi
 have s0 : ∀ (L : List AObj) (o : AObj),(H1 ++ L).set H1.length o = H1 ++ L.set 0 o := fun L o => by rw [List.set_append_right _ _ (by omega),Nat.sub_self]
 have ga : ∀ L : List AObj,(H1 ++ L)[0]? = some (.cells (encs u64A was)) := fun L => (gl L 0 (by omega)).trans k0
 have gb : ∀ L : List AObj,(H1 ++ L)[1]? = some (.cells (redA r)) := fun L => (gl L 1 h1l).trans k1
 have gi : ∀ L : List AObj,(H1 ++ L)[id]? = some (.cells (encs u64A W3)) := fun L => (gl L id hid).trans m2
 by_cases hk : r.k = 1
 case neg =>
   generalize redA r = R at *
   generalize hL : layD = L0 at *
   simp (disch := omega) only [wk,tupled,↓reduceIte,reduceEqDiff,reduceEq,reduceAdd,reduceCtorEq,in_made,runE_none ll_made,m1,List.append_assoc,g0,s0,ga,gb,ow,lw,orr,rt,r24,rk,ri,l10,o10,t10,List.append_nil,hk,wks,purify,unownT,lend,unown,AV.hf]
 by_cases hi : 4 <= r.i /\ r.i <= 8
 case neg =>
   generalize redA r = R at *
   generalize hL : layD = L0 at *
   by_cases hi4 : r.i < 4
   . simp (disch := omega) only [wk,tupled,↓reduceIte,reduceEqDiff,reduceEq,reduceAdd,reduceCtorEq,in_made,runE_none ll_made,m1,List.append_assoc,g0,s0,ga,gb,ow,lw,orr,rt,r24,rk,ri,l10,o10,t10,List.append_nil,hk,hi4,wks,purify,unownT,lend,unown,AV.hf]
   . have hi8 : 8 < r.i := by omega
     simp (disch := omega) only [wk,tupled,↓reduceIte,reduceEqDiff,reduceEq,reduceAdd,reduceCtorEq,in_made,runE_none ll_made,m1,List.append_assoc,g0,s0,ga,gb,ow,lw,orr,rt,r24,rk,ri,l10,o10,t10,List.append_nil,hk,hi4,hi8,wks,purify,unownT,lend,unown,AV.hf]
 obtain ⟨n,hn⟩ : ∃ n : Nat,r.i = ((n + 1 : Nat) : Int) := ⟨(r.i - 1).toNat,by omega⟩
 have hn8 : n < 8 := by omega
 obtain ⟨A,hA⟩ : ∃ A,A = 576 + 16 * n := ⟨_,rfl⟩
 have hA1 : A <= 688 := by omega
 have ia : ∀ H,pcx (cbL tab) 11 [.agg layD,.int .i64 r.i] H = some (.plain (.int .i64 ((A : Nat) : Int))) := fun H => by
   rw [inodeAt_px r.i (by omega) (by omega) H,show 576 + 16 * (r.i - 1) = ((A : Nat) : Int) from by omega]
 have hi4 : ¬ r.i < 4 := by omega
 have hi8 : ¬ 8 < r.i := by omega
 obtain ⟨W1,hW1⟩ : ∃ W1,W1 = putW W3 A was := ⟨_,rfl⟩
 have w1 : W1.length = 4096 := by rw [hW1,putW_len (by rw [hwl]; omega),w3]
 have pw := putW_cells W3 was A
 rw [hwl,<- hW1] at pw
 have hd0 : 2 <= id := m4
 have hgi : ((H1 ++ [AObj.cells layD]).set id (.cells (encs u64A W1)))[id]? = some (.cells (encs u64A W1)) := set_eqU (gi _)
 have a1 := again1_px ht hk w1 hn8 hn hgi
 rw [<- hA] at a1
 have lW3 : (encs u64A W3).length = 4096 := by rw [lenU,w3]
 obtain ⟨N,hN⟩ : ∃ N : Nat,N = 4096 := ⟨_,rfl⟩
 rw [<- hN] at m1 a1 lW3 w1
 have mn : min 16 (N - A) = 16 := by omega
 have hAN : ¬ A = N := by omega
 have tw : List.take 16 (encs u64A was) = encs u64A was := List.take_of_length_le (by omega)
 have rw0 : rowOf (H1 ++ [.cells layD]) (.msl 1 0 0 16) = .sl 1 16 (encs u64A was) .ro := by
   rw [rowOf_msl (ga _) (by omega) (by decide),List.drop_zero,Nat.mul_one,tw]
 have fl : ∀ (c : AObj) (L : List AObj),((H1 ++ [AObj.cells layD]).set id c ++ L)[H1.length]? = some (.cells layD) := fun c L => by
   rw [List.getElem?_append_left (by rw [List.length_set,List.length_append]; exact Nat.lt_succ_self _),set_neU (by omega),g0]; rfl
 have fb : ∀ (c : AObj) (L : List AObj),((H1 ++ [AObj.cells layD]).set id c ++ L)[1]? = some (.cells (redA r)) := fun c L => by
   rw [List.getElem?_append_left (by rw [List.length_set,List.length_append]; omega),set_neU (by omega),gb]
 have fl0 := fun c => fl c []
 have fb0 := fun c => fb c []
 simp only [List.append_nil] at fl0 fb0
 by_cases he : errJ r = 0
 case neg =>
   rw [if_neg he] at a1
   have e310 : errJ r = 310 := by
     unfold errJ at he ⊢
     split at he
     . exact absurd rfl he
     . rename_i h; rw [if_neg h]
   rw [e310] at a1
   have es : slvR 2 putA ([] : List (Int × Int)) = .sl 0 0 [] .z := rfl
   rw [es] at a1
   generalize redA r = R at *
   generalize hL : layD = L0 at *
   simp (disch := omega) only [wk,tupled,↓reduceIte,reduceEqDiff,reduceEq,reduceAdd,reduceCtorEq,in_made,runE_none ll_made,m1,List.append_assoc,g0,s0,ga,gb,gi,ow,lw,orr,rt,r24,rk,ri,l10,o10,t10,List.append_nil,hk,hi4,hi8,ia,mn,hAN,tw,lW3,pw,fl0,fb0,a1,np,wks,Nat.zero_add,Nat.add_zero,rw0,purify,unownT,lend,unown,AV.hf]
   done
 rw [if_pos he,he] at a1
 have dlen := dI_len (W := W1) (A := A) r.ws 0
 rw [ht.wl] at dlen
 obtain ⟨K,hK,hKe⟩ := kof_left (dI W1 A 0 r.ws).length left
 obtain ⟨W2,hW2⟩ : ∃ W2,W2 = apW W1 ((dI W1 A 0 r.ws).take K) := ⟨_,rfl⟩
 have w2 : W2.length = N := by rw [hW2,apW_len,w1]
 have ag2 := fun g H => again1_own ht hk (W := W2) (by omega) hn8 hn g H
 rw [if_pos he,he,<- hA,<- hN] at ag2
 have d2len := dI_len (W := W2) (A := A) r.ws 0
 rw [ht.wl] at d2len
 obtain ⟨W4,hW4⟩ : ∃ W4,W4 = apW W2 (dI W2 A 0 r.ws) := ⟨_,rfl⟩
 have w4 : W4.length = N := by rw [hW4,apW_len,w2]
 have ag4 := fun g H => again1_own ht hk (W := W4) (by omega) hn8 hn g H
 have in2 : ∀ p ∈ dI W2 A 0 r.ws,0 <= p.1 /\ p.1 < W2.length := fun p hp => by
   obtain ⟨k,h1,h2,_⟩ := dI_mem hp
   rw [ht.wl] at h2
   omega
 have done4 : ∀ i,i < 16 -> W4[A + i]? = r.ws[i]? := fun i hi => by
   rw [hW4,apW_stW _ _ in2]
   have := dI_done (A := A) r.ws 0 W2 (by rw [ht.wl]; omega) i (by rw [ht.wl]; exact hi)
   rw [Nat.add_zero] at this
   exact this
 have none4 : dI W4 A 0 r.ws = [] := dI_none r.ws 0 (fun i hi => by rw [Nat.add_zero]; exact done4 i (by rw [<- ht.wl]; exact hi))
 rw [if_pos he,he,<- hA,<- hN,none4] at ag4
 have es : slvR 2 putA ([] : List (Int × Int)) = .sl 0 0 [] .z := rfl
 rw [es] at ag4
 obtain ⟨s2,t2,e2,hs2,_⟩ := slvR_form 2 putA (dI W2 A 0 r.ws)
 rw [e2] at ag2
 have w2ne : W2 ≠ [] := fun e => by rw [e] at w2; simp at w2; omega
 have ap2 := fun g H => apply_px (x := .sl 1 W2.length (encs u64A W2) (.own g)) (lendK_sl H 4 _ _ _ _) (dI W2 A 0 r.ws) [] rfl s2 t2 w2ne (by omega) (by omega) hs2
 rw [<- hW4,w2,List.append_nil] at ap2
 have rel : ∀ i,i < 16 -> (redA r)[2 + i]? = some (.int .u64 (r.ws.getD i 0)) := fun i hi => by
   show (.int .i64 r.k :: .int .i64 r.i :: (encs u64A r.ws ++ _) : List AV)[2 + i]? = _
   rw [show 2 + i = i + 1 + 1 from by omega,List.getElem?_cons_succ,List.getElem?_cons_succ,List.getElem?_append_left (by rw [lenU,ht.wl]; exact hi),getU _ _ (by rw [ht.wl]; exact hi)]
 have lW4 : (encs u64A W4).length = N := by rw [lenU,w4]
 have g4 : ∀ i,i < 16 -> (List.drop (A + i) (encs u64A W4))[0]? = some (.int .u64 (r.ws.getD i 0)) := fun i hi => by
   rw [List.getElem?_drop,Nat.add_zero,getU W4 _ (by omega),getD_of (V := W4) rfl]
   congr 2
   rw [List.getD_eq_getElem?_getD,List.getD_eq_getElem?_getD,done4 i hi]
 have w1ne : W1 ≠ [] := fun e => by rw [e] at w1; simp at w1; omega
 have lk1 : lendK ((H1 ++ [AObj.cells layD]).set id (.cells (encs u64A W1))) 4 (.msl 1 id 0 W1.length) = .sl 1 W1.length (encs u64A W1) .ro := lendK_words hgi
 have ap1 := fun rest hr s tk hs => apply_px lk1 ((dI W1 A 0 r.ws).take K) rest hr s tk w1ne (by omega) (by rw [List.length_take]; omega) hs
 rw [<- hW2,w1,List.length_take,Nat.min_eq_left hK] at ap1
 have lD1 : (encs putA (dI W1 A 0 r.ws)).length = (dI W1 A 0 r.ws).length * 2 := encs_length _
 obtain ⟨sv,tv,esv,hsv⟩ : ∃ (s : Nat) (tk : Tk),(∀ E H x y,x.evE E = slvR 2 putA (dI W1 A 0 r.ws) -> y.evE E = .int .i64 ((K : Nat) : Int) -> avalE (.slice 2 x none (some y)) E H = some (.sl s K (encs putA (dI W1 A 0 r.ws)) tk)) /\ ((dI W1 A 0 r.ws).take K ≠ [] -> s = 2) := by
   cases hD : dI W1 A 0 r.ws with
   | nil =>
     rw [hD] at hK
     obtain rfl : K = 0 := by simpa using hK
     refine ⟨0,.z,fun E H x y hx hy => ?_,by simp⟩
     simp only [avalE,hx,hy,slvR,boundE,asNat]
     rfl
   | cons d D =>
     refine ⟨2,.ro,fun E H x y hx hy => ?_,fun _ => rfl⟩
     rw [hD] at hK lD1
     have h1 : K * 2 <= (encs putA (d :: D)).length := by omega
     have h2 : (0 : Int) <= ((K : Nat) : Int) := by omega
     simp only [avalE,hx,hy,slvR,boundE,asNat,List.isEmpty_cons,Bool.false_eq_true,if_false,h2,if_true,Int.toNat_natCast,Nat.zero_le,h1,and_self,true_and,Nat.zero_mul,List.drop_zero,Nat.sub_zero,Nat.zero_lt_succ]
     split
     . rename_i h; rw [h]
     . rfl
 have apx := ap1 (encs putA ((dI W1 A 0 r.ws).drop K)) (hfL_encs (fun _ => rfl) _) sv tv hsv
 rw [<- encs_append,List.take_append_drop] at apx
 have lenP : ∀ H : Heap,avalE (.len 0 (.c (slvR 2 putA (dI W1 A 0 r.ws)))) (argE []) H = some (.int .i64 (((dI W1 A 0 r.ws).length : Nat) : Int)) := by
   obtain ⟨s1,t1,e1,_⟩ := slvR_form 2 putA (dI W1 A 0 r.ws)
   rw [e1]
   intro H
   rfl
 have slP := esv (argE []) [] (.c (slvR 2 putA (dI W1 A 0 r.ws))) (.c (.int .i64 ((K : Nat) : Int))) rfl rfl
 generalize slvR 2 putA (dI W1 A 0 r.ws) = P1 at a1 lenP slP
 generalize encs putA (dI W1 A 0 r.ws) = C1 at apx slP
 generalize (dI W1 A 0 r.ws).length = n1 at lenP hKe
 simp (disch := omega) only [wk,tupled,↓reduceIte,reduceEqDiff,reduceEq,reduceAdd,reduceCtorEq] at lenP
 simp (disch := omega) only [wk,tupled,↓reduceIte,reduceEqDiff,reduceEq,reduceAdd,reduceCtorEq] at slP
 generalize redA r = R at *
 generalize hL : layD = L0 at *
 simp (disch := omega) only [wk,tupled,↓reduceIte,reduceEqDiff,reduceEq,reduceAdd,reduceCtorEq,in_made,runE_none ll_made,m1,List.append_assoc,g0,s0,ga,gb,gi,ow,lw,orr,rt,r24,rk,ri,l10,o10,t10,List.append_nil,hk,hi4,hi8,ia,mn,hAN,tw,lW3,pw,fl0,fb0,a1,np,wks,Nat.zero_add,Nat.add_zero,rw0,lenP,hKe,slP,apx,fl,fb,ag2,ap2,ag4]
 refine loop_ind (fun (i : Nat) E df H => i <= 16 /\ (∃ g,E 7 = .sl 1 N (encs u64A W4) (.own g)) /\ E 8 = .ptr H1.length 0 /\ E 4 = .ptr 1 0 /\ E 10 = .int .i64 ((A : Nat) : Int) /\ E 14 = .int .i64 0 /\ E 15 = .int .i64 ((i : Nat) : Int) /\ df = [] /\ H[1]? = some (.cells R) /\ H[H1.length]? = some (.cells L0))
   (fun i => 16 - i) 0 (by decide) (.inl rfl) ⟨by omega,⟨_,by simp only [en,↓reduceIte,reduceEqDiff]; rfl⟩,by simp only [en,↓reduceIte,reduceEqDiff],by simp only [en,↓reduceIte,reduceEqDiff],by simp only [en,↓reduceIte,reduceEqDiff],by simp only [en,↓reduceIte,reduceEqDiff],by simp only [en,↓reduceIte,reduceEqDiff]; rfl,rfl,by first | exact fb _ _ | (rw [List.append_assoc]; exact fb _ _),by first | exact fl _ _ | (rw [List.append_assoc]; exact fl _ _)⟩ ?_
 intro i E df H ih hP
 obtain ⟨hi16,⟨g,E7⟩,E8,E4,E10,E14,E15,hdf,hb,hlH⟩ := hP
 subst hdf
 by_cases hin : i < 16
 . have hg4 := g4 i hin
   have hrl := rel i hin
   have tA : ((A : Int) + (i : Nat)).toNat = A + i := by omega
   simp (disch := omega) only [wk,tupled,↓reduceIte,reduceEqDiff,reduceEq,reduceAdd,reduceCtorEq,E7,E8,E4,E10,E14,E15,hb,hlH,hg4,hrl,tA,lW4]
   refine ih (i + 1) _ _ _ (by omega) ?_
   exact ⟨by omega,⟨g,by simp only [en,↓reduceIte,reduceEqDiff,E7]⟩,by simp only [en,↓reduceIte,reduceEqDiff,E8],by simp only [en,↓reduceIte,reduceEqDiff,E4],by simp only [en,↓reduceIte,reduceEqDiff,E10],by simp only [en,↓reduceIte,reduceEqDiff,E14],by simp only [en,↓reduceIte,reduceEqDiff],rfl,hb,hlH⟩
 . obtain rfl : i = 16 := by omega
   have c16 : ((16 : Nat) : Int) = 16 := rfl
   simp (disch := omega) only [wk,tupled,↓reduceIte,reduceEqDiff,reduceEq,reduceAdd,reduceCtorEq,E7,E8,E4,E10,E14,E15,hb,hlH,c16,l10,o10,t10,r24,rt,ag4,np,wks,List.append_nil,purify,unownT,lend,unown,AV.hf]
   done
end Go.Proofs.YtogbblcnfcfflaaGreat
