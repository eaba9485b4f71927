/- TEXTS OF THE WALKS, put together: SP2 SW4 SW5 SW6 SW7 SW8 SW9 SV SV2 SX SR1 SR2 SR3 SN1 SN2 SN3 ST1 ST2 ST3 SU0 SU1 SU2 SU3 SU4 SU5 SU6 SU7 SK0 SKE SK1 LFr SQA. No condition but those stated. -/
import Derived.Test.YtephfpdnhdpmkaaGreatDoorSB1
import Derived.Test.YtephfpdnhdpmkaaGreatDoorSB2
import Derived.Test.YtephfpdnhdpmkaaGreatDoorQ1
import Derived.Test.YtephfpdnhdpmkaaGreatDoorAmMapE
import Derived.Test.YtephfpdnhdpmkaaGreatDoorPTab
open Int (reduceEq)
open Nat (reduceEqDiff reduceAdd reduceMul reduceLT reduceLeDiff)
set_option linter.all false
set_option maxHeartbeats 8000000
set_option maxRecDepth 1000000
namespace Go.Proofs.YtephfpdnhdpmkaaGreatDoor
open Go Go.Am Go.Rec Go.Spc
theorem hsum_ok:∀i:Nat,0<=hsum i/\hsum i<18446744073709551616:=by
 intro i
 by_cases h:i<30
 . have:∀i:Nat,i<30->0<=hsum i/\hsum i<18446744073709551616:=by decide
   exact this i h
 . have:hsum i=0:=by
     unfold hsum
     rw[List.getD_eq_getElem?_getD,List.getElem?_eq_none (by show 30<=i;omega)];rfl
   rw[this];decide
def sumP (i b:Nat):Nat:=(hsum i).toNat/2^(64-b)
theorem sumP_lt (i:Nat) {b:Nat} (h2:b<=40):sumP i b<1099511627776:=by
 have ho:=hsum_ok i
 have:=(field_nat (w:=(hsum i).toNat) (b:=b) (by have:=ho.2;have:=ho.1;omega) h2).2
 have:=(pows h2).2.2.2
 unfold sumP
 omega
theorem bytes_nmS (i:Nat) (hi:i<30):bytesA (nmS i)=[.int .u8 ((97+i:Nat):Int)]:=by
 have h:(UInt8.ofNat (97+i)).toNat=97+i:=by
   show(97+i) % 256=97+i
   omega
 show [AV.int .u8 ((UInt8.ofNat (97+i)).toNat:Nat)]=_
 rw[h]
theorem up_pc {f:FuncId} {args:List AV} {r:PR} (hl:(cbL tab).lent f=false) (h:(cbL tab).pc f args=some r) (H:Heap):pcx (cbL tab) f args H=some r:=pcx_N hl h
theorem part_px {i b:Nat} (hi:i<30) (hb1:1<=b) (hb2:b<=40) (H:Heap):
   pcx (cbL tab) 158 [key56,.sl 1 1 [.int .u8 ((97+i:Nat):Int)] .ro,.int .i64 (b:Nat)] H=some (.plain (.tup [.int .u64 (sumP i b:Nat),.int .i64 0])):=by
 refine pcx_N rfl (pc_wp (fi:=c158) rfl rfl (by simp[c158]) (by decide) ?_)
 unfold c158
 rw[List.map_cons,List.map_cons,List.map_cons,List.map_nil,show lend key56=key56 from rfl,lend_ro,lend_int]
 have hs:=fun H=>up_pc rfl (hsum_k i hi) H
 unfold key56 at hs ⊢
 have ho:=hsum_ok i
 have fp:∀H,pcx (cbL tab) 159 [.int .u64 (hsum i),.int .i64 (64-(b:Int)),.int .i64 (b:Nat)] H=some (.plain (.tup [.int .u64 (sumP i b:Nat),.int .i64 0])):=fun H=>by
   have:=field_px (w:=(hsum i).toNat) (by have:=ho.2;have:=ho.1;omega) hb1 hb2 H
   rwa[Int.toNat_of_nonneg ho.1]at this
 generalize sumP i b=q at*
 generalize hsum i=r at*
 generalize ((97+i:Nat):Int)=c at*
 have m1:(-(0+1):Int)<64-(b:Int):=by omega
 simp(disch:=omega)only[wk,tupled,↓reduceIte,reduceEqDiff,reduceEq,reduceAdd,reduceCtorEq,hs,fp,m1,purify,unownT,lend,unown,AV.hf,hfL]
theorem rpart_px {i b:Nat} (hi:i<30) (hb1:1<=b) (hb2:b<=40) (H:Heap):
   pcx (cbL tab) 152 [key56,.sl 1 1 [.int .u8 ((97+i:Nat):Int)] .ro,.int .i64 (b:Nat)] H=some (.plain (.int .u64 (sumP i b:Nat))):=by
 refine pcx_N rfl (pc_wp (fi:=c152) rfl rfl (by simp[c152]) (by decide) ?_)
 unfold c152
 rw[List.map_cons,List.map_cons,List.map_cons,List.map_nil,show lend key56=key56 from rfl,lend_ro,lend_int]
 have hs:=fun H=>up_pc rfl (rhsum_k i hi) H
 unfold key56 at hs ⊢
 have ho:=hsum_ok i
 have fp:∀H,pcx (cbL tab) 162 [.int .u64 (hsum i),.int .i64 (64-(b:Int)),.int .i64 (b:Nat)] H=some (.plain (.int .u64 (sumP i b:Nat))):=fun H=>by
   have:=rfield_px (w:=(hsum i).toNat) (by have:=ho.2;have:=ho.1;omega) hb1 hb2 H
   rwa[Int.toNat_of_nonneg ho.1]at this
 generalize sumP i b=q at*
 generalize hsum i=r at*
 generalize ((97+i:Nat):Int)=c at*
 have m1:(-(0+1):Int)<64-(b:Int):=by omega
 simp(disch:=omega)only[wk,tupled,↓reduceIte,reduceEqDiff,reduceEq,reduceAdd,reduceCtorEq,hs,fp,m1,purify,unownT,lend,unown,AV.hf,hfL]
theorem rright_px {f:Frm} (h:okF f) (H:Heap):pcx (cbL tab) 70 [.agg (layA f 5 6)] H=some (.plain (.bool true)):=by
 have e1:lend (.agg (layA f 5 6))= .agg (layA f 5 6):=rfl
 refine pcx_N rfl (pc_wp (fi:=c70) rfl rfl (by simp[c70]) (by decide) ?_)
 unfold c70
 rw[List.map_cons,List.map_nil,e1]
 have lo:=fun H=>rof_px f 5 6 H
 simp only[if_pos h]at lo
 unfold layA frmA at lo ⊢
 simp only[List.cons_append,List.nil_append]at lo ⊢
 simp(disch:=omega)only[wk,tupled,↓reduceIte,reduceEqDiff,reduceEq,reduceAdd,reduceCtorEq,lo,lay_eql,purify,unownT,lend,unown,AV.hf,hfL]
theorem rrsum_px {f:Frm} (hf:okF f) {i:Nat} (hi:i<30) (H:Heap):
   pcx (cbL tab) 143 [.agg (layA f 5 6),.str (nmS i)] H=some (.plain (.tup [.int .u64 (sumP i f.t.toNat:Nat),.int .i64 0])):=by
 have e1:lend (.agg (layA f 5 6))= .agg (layA f 5 6):=rfl
 refine pcx_N rfl (pc_wp (fi:=c143) rfl rfl (by simp[c143]) (by decide) ?_)
 unfold c143
 rw[List.map_cons,List.map_cons,List.map_nil,e1,lend_str]
 have sp:=fun H=>rright_px hf H
 have np:=fun H=>up_pc rfl (rncheck_k i hi) H
 obtain⟨q1,q2,q3,q4,q5,q6,q7,q8,q9,q10,q11⟩:=hf
 obtain⟨b,hb⟩:=Int.eq_ofNat_of_zero_le (show 0<=f.t by omega)
 have pp:=fun H=>rpart_px hi (b:=b) (by omega) (by omega) H
 have eb:f.t.toNat=b:=by omega
 have bs:=bytes_nmS i hi
 have sz:(nmS i).size=1:=rfl
 unfold key56 at pp
 rw[<-hb]at pp
 rw[eb]
 unfold layA frmA at sp ⊢
 simp only[List.cons_append,List.nil_append]at sp ⊢
 generalize sumP i b=q at*
 generalize ((97+i:Nat):Int)=c at*
 generalize nmS i=s at*
 have cv:s.size<=70368744177664:=by omega
 simp(disch:=omega)only[wk,tupled,↓reduceIte,reduceEqDiff,reduceEq,reduceAdd,reduceCtorEq,sp,np,bs,sz,pp,cv,purify,unownT,lend,unown,AV.hf,hfL,Tk.hf]
theorem rrkey_px {f:Frm} (hf:okF f) {i:Nat} (hi:i<30) (H:Heap):
   pcx (cbL tab) 142 [.agg (layA f 5 6),.str (nmS i),.int .i64 0] H=some (.plain (.tup [.int .u64 (65536*((sumP i f.t.toNat:Nat):Int)),.int .i64 0])):=by
 have e1:lend (.agg (layA f 5 6))= .agg (layA f 5 6):=rfl
 refine pcx_N rfl (pc_wp (fi:=c142) rfl rfl (by simp[c142]) (by decide) ?_)
 unfold c142
 rw[List.map_cons,List.map_cons,List.map_cons,List.map_nil,e1,lend_str,lend_int]
 have rp:=fun H=>rright_px hf H
 have sp:=fun H=>rrsum_px hf hi H
 have pl:=sumP_lt i (b:=f.t.toNat) (by have:=hf.2.2.2.2.2.2.2.2.2.1;omega)
 generalize sumP i f.t.toNat=q at*
 unfold layA frmA at sp rp ⊢
 simp only[List.cons_append,List.nil_append]at sp rp ⊢
 have wn:IntKind.u64.wrap (0:Int)=0:=rfl
 have wm:IntKind.u64.wrap (65536*(q:Int))=65536*(q:Int):=wrap_u64 (by omega) (by omega)
 simp(disch:=omega)only[wk,tupled,↓reduceIte,reduceEqDiff,reduceEq,reduceAdd,reduceCtorEq,rp,sp,wn,wm,Int.add_zero,purify,unownT,lend,unown,AV.hf,hfL,Tk.hf]
theorem rsum_px {f:Frm} (hf:okF f) {i:Nat} (hi:i<30) (H:Heap):
   pcx (cbL tab) 148 [.agg (layA f 5 6),.str (nmS i)] H=some (.plain (.tup [.int .u64 (sumP i f.t.toNat:Nat),.int .i64 0])):=by
 have e1:lend (.agg (layA f 5 6))= .agg (layA f 5 6):=rfl
 refine pcx_N rfl (pc_wp (fi:=c148) rfl rfl (by simp[c148]) (by decide) ?_)
 unfold c148
 rw[List.map_cons,List.map_cons,List.map_nil,e1,lend_str]
 obtain⟨sv,sp⟩:=super_px hf (k0:=5) (k1:=6) ⟨by decide,by decide⟩ ⟨by decide,by decide⟩
 have np:=fun H=>up_pc rfl (ncheck_k i hi) H
 obtain⟨q1,q2,q3,q4,q5,q6,q7,q8,q9,q10,q11⟩:=hf
 obtain⟨b,hb⟩:=Int.eq_ofNat_of_zero_le (show 0<=f.t by omega)
 have pp:=fun H=>part_px hi (b:=b) (by omega) (by omega) H
 have eb:f.t.toNat=b:=by omega
 have bs:=bytes_nmS i hi
 have sz:(nmS i).size=1:=rfl
 unfold key56 at pp
 rw[<-hb]at pp
 rw[eb]
 unfold layA frmA at sp ⊢
 simp only[List.cons_append,List.nil_append]at sp ⊢
 generalize sumP i b=q at*
 generalize ((97+i:Nat):Int)=c at*
 generalize nmS i=s at*
 have cv:s.size<=70368744177664:=by omega
 simp(disch:=omega)only[wk,tupled,↓reduceIte,reduceEqDiff,reduceEq,reduceAdd,reduceCtorEq,sp,np,bs,sz,pp,cv,purify,unownT,lend,unown,AV.hf,hfL,Tk.hf]
end Go.Proofs.YtephfpdnhdpmkaaGreatDoor
namespace Go.Proofs.YtephfpdnhdpmkaaGreatDoor
open Go Go.Am Go.Spc
theorem with_pxo (f:Frm) {T:List Tv} (hT:okT T) (hl:T.length<=900) {tk:Tk} (ht:tk= .ro∨tk= .e) {x:Tv} (hx:x.ok) {v w:AV} (hv:unown v=x.bv) (hw:unown w=x.nv) (H:Heap):pcx (cbL tab) 90 [.agg (stC f T tk),.agg [.int .i64 x.n,.int .i64 x.k,.int .i64 x.l,v,.int .i64 x.p,w,.str (ByteArray.mk (Array.mk []))]] H=some (.plain (.agg (stC f (withM T x) .ro))):=by
 refine pcx_N rfl (pc_lend1 rfl ?_)
 rw[List.map_cons,List.map_cons,List.map_nil,lend_st f T ht]
 have:lend (.agg [.int .i64 x.n,.int .i64 x.k,.int .i64 x.l,v,.int .i64 x.p,w,.str (ByteArray.mk (Array.mk []))])= .agg (tvC x):=by
   show AV.agg [_,_,_,unown v,_,unown w,_]=_
   rw[hv,hw];rfl
 rw[this]
 exact with_pc f hT hl ht hx
theorem keyM_le:∀(l:List Nm) (k:Int),k<=keyM k l/\keyM k l<=k+l.length
 |[],k=>⟨Int.le_refl _,by simp[keyM]⟩
 | x::r,k=>by
   rw[keyM,List.length_cons]
   have:=keyM_le r (if x.k=k then k+1 else k)
   split at this<;>rename_i h<;>simp only[h,if_true,if_false]<;>omega
theorem key_px {f:Frm} (hf:okF f) {i:Nat} (hi:i<30) {l:List Nm} {v:AV} (hv:IsR 3 l.length (encs nmC l) v) (hl:l.length<=1000) (H:Heap):
   pcx (cbL tab) 119 [.agg (layA f 5 6),v,.str (nmS i)] H=some (.plain (.int .u64 (keyM (65536*((sumP i f.t.toNat:Nat):Int)) l))):=by
 have e1:lend (.agg (layA f 5 6))= .agg (layA f 5 6):=rfl
 have hh:=hv.hf (hfL_encs hf_nmC _)
 obtain⟨s,tk,rfl,hs,htk⟩:=hv
 have e2:lend (.sl s l.length (encs nmC l) tk)= .sl s l.length (encs nmC l) tk:=by cases tk<;>first|rfl|cases htk
 refine pcx_N rfl (pc_wp (fi:=c119) rfl ?_ (by simp[c119]) (by decide) ?_)
 . simp only[pcOn,List.map_cons,List.map_nil,e1,e2,lend_str,c119,hfL,hh,Bool.and_true];rfl
 unfold c119
 rw[List.map_cons,List.map_cons,List.map_cons,List.map_nil,e1,e2,lend_str]
 have kp:=fun H=>rrkey_px hf hi H
 have pl:=sumP_lt i (b:=f.t.toNat) (by have:=hf.2.2.2.2.2.2.2.2.2.1;omega)
 have kl:=keyM_le l (65536*((sumP i f.t.toNat:Nat):Int))
 generalize sumP i f.t.toNat=q at*
 obtain⟨R,hR⟩:∃R,R=keyM (65536*(q:Int)) l:=⟨_,rfl⟩
 rw[<-hR]at kl ⊢
 unfold layA frmA at kp ⊢
 simp only[List.cons_append,List.nil_append]at kp ⊢
 simp(disch:=omega)only[wk,tupled,↓reduceIte,reduceEqDiff,reduceEq,reduceAdd,reduceCtorEq,kp]
 refine loop_ind (fun(x:List Nm×List Nm×Int) E df H=>l=x.1++x.2.1/\R=keyM x.2.2 x.2.1/\0<=x.2.2/\x.2.2<=65536*(q:Int)+x.1.length/\E 1= .sl s l.length (encs nmC l) tk/\E 7= .int .u64 x.2.2/\E 9= .int .i64 ((x.1.length:Nat):Int)/\df=[])
   (fun x=>x.2.1.length) ([],l,65536*(q:Int)) (by decide) (.inl rfl) ⟨rfl,hR,by dsimp only;omega,by simp,rfl,rfl,rfl,rfl⟩ ?_
 intro ⟨pre,suf,k⟩ E df H ih hP
 obtain⟨a1,a2,a3,a4,E1,E7,E9,hdf⟩:=hP
 dsimp only at a1 a2 a3 a4 E7 E9
 subst hdf
 have la:l.length=pre.length+suf.length:=by rw[a1,List.length_append]
 cases suf with
 | nil=>
   have n1:¬(pre.length:Int)<(l.length:Int):=by rw[la];simp
   rw[a2]
   simp(disch:=omega)only[wk,tupled,↓reduceIte,reduceEqDiff,reduceEq,reduceAdd,reduceCtorEq,E1,E7,E9,n1,keyM,purify,unownT,lend,unown,AV.hf,hfL]
 | cons x r=>
   rw[List.length_cons]at la
   have n1:(pre.length:Int)<(l.length:Int):=by omega
   obtain rfl:=hs (by omega)
   have d1:=nm_drop pre x r
   rw[<-a1]at d1
   rw[keyM]at a2
   have wm:IntKind.u64.wrap (k+1)=k+1:=wrap_u64 (by omega) (by omega)
   by_cases h:x.k=k
   . rw[if_pos h]at a2
     simp(disch:=omega)only[wk,tupled,↓reduceIte,reduceEqDiff,reduceEq,reduceAdd,reduceCtorEq,E1,E7,E9,n1,d1,h,wm]
     exact ih (pre++[x],r,k+1) _ _ _ (by simp) ⟨by simp[a1],a2,by dsimp only;omega,by simp;omega,by simp only[en,↓reduceIte,reduceEqDiff,E1],by simp only[en,↓reduceIte,reduceEqDiff],by simp only[en,↓reduceIte,reduceEqDiff],rfl⟩
   . rw[if_neg h]at a2
     simp(disch:=omega)only[wk,tupled,↓reduceIte,reduceEqDiff,reduceEq,reduceAdd,reduceCtorEq,E1,E7,E9,n1,d1,h]
     exact ih (pre++[x],r,k) _ _ _ (by simp) ⟨by simp[a1],a2,a3,by simp;omega,by simp only[en,↓reduceIte,reduceEqDiff,E1],by simp only[en,↓reduceIte,reduceEqDiff,E7],by simp only[en,↓reduceIte,reduceEqDiff],rfl⟩
theorem insN_len (x:Nm):∀l:List Nm,(insN x l).length=l.length+1
 |[]=>rfl
 | y::r=>by
   rw[insN]
   split
   . rfl
   . rw[List.length_cons,insN_len x r];rfl
theorem four {H:Heap} {a b c d:AObj} (h0:H[0]? =some a) (h1:H[1]? =some b) (h2:H[2]? =some c) (h3:H[3]? =some d):∃X,H=a::b::c::d::X:=by
 match H,h0,h1,h2,h3 with
 | w::x::y::z::X,h0,h1,h2,h3=>
   cases h0;cases h1;cases h2;cases h3
   exact⟨X,rfl⟩
def zst:List AV:=[.int .i64 0,.int .i64 0,.int .i64 0,.int .i64 0,.int .u64 0,.int .u64 0,.int .i64 0,.int .i64 0,.int .i64 0,.int .i64 0,.sl 0 0 [] .z]
theorem pd_st (f:Frm) {T:List Tv} (hw:∀t∈T,t.ok) (hu:T.map un=T) (H:Heap):purD (some (.ret (.agg (stC f T .ro)),H))=some (.plain (.agg (stC f T .ro))):=by
 simp only[purD,un_st f _ H hw hu]
 rw[if_pos]
 show hfL _=true
 exact hf_st f hw rfl
theorem withM_ok {T:List Tv} {x:Tv} (hT:okT T) (hx:x.ok):okT (withM T x):=fun t h=>by
 obtain⟨y,hy,rfl⟩:=List.mem_map.1 h
 refine Tv.cp_ok ?_
 rcases insM_mem hy with rfl|h
 . exact hx.few
 . exact(hT y h).few
theorem withM_un (T:List Tv) (x:Tv):(withM T x).map un=withM T x:=by
 unfold withM
 rw[List.map_map]
 exact List.map_congr_left fun t _=>un_cp t
theorem withM_len (T:List Tv) (x:Tv):(withM T x).length<=T.length+1:=by
 unfold withM;rw[List.length_map];exact insM_len x T
def addN (b:Nat) (d:Tv) (i:Nat) (n:Int):Tv:={d with nm:=insN ⟨keyM (65536*((sumP i b:Nat):Int)) d.nm,i,n⟩ d.nm,nv:= .sl 3 (d.nm.length+1) (encs nmC (insN ⟨keyM (65536*((sumP i b:Nat):Int)) d.nm,i,n⟩ d.nm)) .ro}
theorem addN_ok {b:Nat} {d:Tv} (hd:d.ok) (h:d.nm.length<=900) (i:Nat) (n:Int):(addN b d i n).ok:=by
 refine⟨hd.b,⟨3,.ro, ?_,fun _=>rfl,rfl⟩, ?_⟩
 . unfold addN;dsimp only;rw[insN_len]
 . unfold addN;dsimp only;rw[insN_len];omega
theorem named_pc {f:Frm} (hf:okF f) {T:List Tv} (hT:okT T) (hl:T.length<=800) {tk:Tk} (ht:tk= .ro∨tk= .e) {pre suf:List Tv} {d:Tv} (e1:T=pre++d::suf) {dir:Int} (e2:findM T dir 0=((pre.length:Nat):Int)) (hdn:d.nm.length<=900) {i:Nat} (hi:i<30) {inode:Int}
   {T1 pre1 suf1:List Tv} {x:Tv} (e3:T1=withM T (addN f.t.toNat d i inode)) (e4:T1=pre1++x::suf1) (e5:findM T1 inode 0=((pre1.length:Nat):Int)) (hx:0<=x.l/\x.l<=1000):
   (cbL tab).pc 91 [.agg (stC f T tk),.int .i64 dir,.str (nmS i),.int .i64 inode]=some (.plain (.agg (stC f (withM T1 {x with l:=x.l+1}) .ro))):=by
 have hh:=hf_st f hT (tk:=tk) (by rcases ht with rfl|rfl<;>rfl)
 have hd:=hT d (by rw[e1];simp)
 have hT1:okT T1:=e3▸withM_ok hT (addN_ok hd hdn i inode)
 have hxo:=hT1 x (by rw[e4];simp)
 have l1:T1.length<=801:=by rw[e3];have:=withM_len T (addN f.t.toNat d i inode);omega
 have hx1:({x with l:=x.l+1}:Tv).ok:=⟨hxo.b,hxo.n,hxo.few⟩
 refine pc_wp6 (fi:=c91) rfl ?_ (by simp[c91]) (by decide) ?_
 . simp only[pcOn,List.map_cons,List.map_nil,lend_st f T ht,lend_int,lend_str,c91,hfL,AV.hf,hh,Bool.and_self]
 unfold c91
 rw[List.map_cons,List.map_cons,List.map_cons,List.map_cons,List.map_nil,lend_st f T ht,lend_int,lend_str,lend_int]
 have pd:=pd_st f (withM_ok hT1 hx1) (withM_un T1 _)
 have fd:=fun H=>find_px f hT (by omega) dir ht H
 have fd1:=fun H=>find_px f hT1 (by omega) inode (.inl rfl) H
 rw[e2]at fd
 rw[e5]at fd1
 have kp:=fun H=>key_px hf hi hd.n hd.few H
 have kl:=keyM_le d.nm (65536*((sumP i f.t.toNat:Nat):Int))
 have dT:=tv_drop pre d suf
 rw[<-e1]at dT
 have dT1:=tv_drop pre1 x suf1
 rw[<-e4]at dT1
 have wp:=fun w (hw:unown w=_) H=>with_pxo f hT (by omega) ht (addN_ok (b:=f.t.toNat) hd hdn i inode) (v:=d.bv) (w:=w) (by obtain⟨s,t,h,_,q⟩:=hd.b;show unown d.bv=d.bv;rw[h];cases t<;>first|rfl|cases q) hw H
 have wp1:=fun H=>with_px f hT1 (by omega) (tk:= .ro) (.inl rfl) hx1 H
 rw[<-e3]at wp
 unfold addN at wp
 dsimp only at wp
 have n0:(pre.length:Int)<(T.length:Int):=by rw[e1];simp;omega
 have n1:(pre1.length:Int)<(T1.length:Int):=by rw[e4];simp;omega
 obtain⟨sb,tb,hbv,_,_⟩:=hd.b
 obtain⟨sn,tn,hnv,hsn,_⟩:=hd.n
 obtain⟨R,hR⟩:∃R,R=withM T1 {x with l:=x.l+1}:=⟨_,rfl⟩
 rw[<-hR]at pd wp1 ⊢
 generalize keyM (65536*((sumP i f.t.toNat:Nat):Int)) d.nm=key at*
 have es:stC f T tk=[.int .i64 f.b,.int .i64 f.i,.int .i64 f.r,.int .i64 f.t,.int .u64 5,.int .u64 6,.int .i64 9,.int .i64 (9+f.i/4),.int .i64 (9+f.i/4+f.r/4),.int .i64 (9+f.i/4+f.r/4+1),.sl 7 T.length (encs tvC T) tk]:=rfl
 have es1:stC f T1 .ro=[.int .i64 f.b,.int .i64 f.i,.int .i64 f.r,.int .i64 f.t,.int .u64 5,.int .u64 6,.int .i64 9,.int .i64 (9+f.i/4),.int .i64 (9+f.i/4+f.r/4),.int .i64 (9+f.i/4+f.r/4+1),.sl 7 T1.length (encs tvC T1) .ro]:=rfl
 have er:stC f R .ro=[.int .i64 f.b,.int .i64 f.i,.int .i64 f.r,.int .i64 f.t,.int .u64 5,.int .u64 6,.int .i64 9,.int .i64 (9+f.i/4),.int .i64 (9+f.i/4+f.r/4),.int .i64 (9+f.i/4+f.r/4+1),.sl 7 R.length (encs tvC R) .ro]:=rfl
 have ek:layA f 5 6=[.int .i64 f.b,.int .i64 f.i,.int .i64 f.r,.int .i64 f.t,.int .u64 5,.int .u64 6,.int .i64 9,.int .i64 (9+f.i/4),.int .i64 (9+f.i/4+f.r/4),.int .i64 (9+f.i/4+f.r/4+1)]:=rfl
 rw[es]at fd wp ⊢
 rw[es1]at fd1 wp wp1
 rw[ek]at kp
 have fl:AV.one d.bv=true:=by rw[hbv];rfl
 have fl2:AV.one d.nv=true:=by rw[hnv];rfl
 simp(disch:=omega)only[wk,tupled,↓reduceIte,reduceEqDiff,reduceEq,reduceAdd,reduceCtorEq,fd,dT,n0,kp,fl,fl2]
 refine loop_ind (fun(y:List Nm×List Nm×List Nm×Bool) E df H=>d.nm=y.1++y.2.1/\y.2.2.1++(if y.2.2.2 then y.2.1 else insN ⟨key,i,inode⟩ y.2.1)=insN ⟨key,i,inode⟩ d.nm/\E 3= .int .i64 inode/\E 4= .ptr 0 0/\E 8= .ptr 1 0/\E 9= .ptr 2 0/\E 10= .ptr 3 0/\Own H 3 (E 11) y.2.2.1.length (encs nmC y.2.2.1)/\(∀s n c,E 11≠ .sl s n c .e)/\E 12= .bool y.2.2.2/\E 13= .int .i64 ((y.1.length:Nat):Int)/\df=[]/\H[0]? =some (.cells (stC f T tk))/\H[1]? =some (.cells zst)/\H[2]? =some (.cells (tvC d))/\H[3]? =some (.cells [.int .u64 key,.str (nmS i),.int .i64 inode]))
   (fun y=>y.2.1.length) ([],d.nm,[],false) (by decide) (.inl rfl) ⟨rfl,by simp,rfl,rfl,rfl,rfl,rfl,.inl ⟨.inl rfl,rfl,rfl⟩,(by intro s n c h;cases h),rfl,rfl,rfl,rfl,rfl,rfl,rfl⟩ ?_
 intro ⟨pr,sf,O,b⟩ E df H ih hP
 obtain⟨a1,a2,E3,E4,E8,E9,E10,ow,nE,E12,E13,hdf,h0,h1,h2,h3⟩:=hP
 dsimp only at a1 a2 ow E12 E13
 rw[es]at h0
 subst hdf
 have la:d.nm.length=pr.length+sf.length:=by rw[a1,List.length_append]
 have few:=hd.few
 have lo:O.length<=d.nm.length+1:=by
   have:=congrArg List.length a2
   rw[insN_len]at this
   simp at this;omega
 have ud:tvC d=[.int .i64 d.n,.int .i64 d.k,.int .i64 d.l,d.bv,.int .i64 d.p,d.nv,.str (ByteArray.mk (Array.mk []))]:=rfl
 rw[ud]at h2
 have ln:=insN_len ⟨key,i,inode⟩ d.nm
 have wl:IntKind.i64.wrap (x.l+1)=x.l+1:=wrap_i64 (by omega) (by omega)
 have gX:∀(X:List AObj) (c:AObj),(X++[c])[X.length]? =some c:=fun X c=>by simp
 have sX:∀(X:List AObj) (c c':AObj),(X++[c]).set X.length c'=X++[c']:=fun X c c'=>by rw[List.set_append_right _ _ (Nat.le_refl _),Nat.sub_self];rfl
 have ux:tvC {x with l:=x.l+1}=[.int .i64 x.n,.int .i64 x.k,.int .i64 (x.l+1),x.bv,.int .i64 x.p,x.nv,.str (ByteArray.mk (Array.mk []))]:=rfl
 rw[ux]at wp1
 have fx:AV.one x.bv=true:=hxo.b.one
 have fx2:AV.one x.nv=true:=hxo.n.one
 rw[er]at pd
 have zz:zst=[.int .i64 0,.int .i64 0,.int .i64 0,.int .i64 0,.int .u64 0,.int .u64 0,.int .i64 0,.int .i64 0,.int .i64 0,.int .i64 0,.sl 0 0 [] .z]:=rfl
 cases sf with
 | nil=>
   have n2:¬(pr.length:Int)<(d.nm.length:Int):=by rw[la];simp
   cases b with
   | true=>
     have e:O=insN ⟨key,i,inode⟩ d.nm:=by simpa using a2
     rcases ow with⟨_,q1,_⟩|⟨_,g,hv,hg⟩
     . rw[e,ln]at q1;omega
     rw[e,ln]at hv
     obtain⟨X,rfl⟩:=four h0 h1 h2 h3
     have wp':=wp (.sl 3 (d.nm.length+1) (encs nmC (insN ⟨key,i,inode⟩ d.nm)) (.own g)) rfl
     rw[er]at wp1 ⊢
     simp(disch:=omega)only[wk,tupled,↓reduceIte,reduceEqDiff,reduceEq,reduceAdd,reduceCtorEq,E3,E4,E8,E9,E10,hv,E12,E13,n2,hnv,zz,wp',fd1,dT1,n1,gX,sX,wl,wp1,pd,fl,fl2,fx,fx2]
   | false=>
     have e:insN ⟨key,i,inode⟩ d.nm=O++[⟨key,i,inode⟩]:=by rw[<-a2];rfl
     have eO:encs nmC (insN ⟨key,i,inode⟩ d.nm)=encs nmC O++[.int .u64 key,.str (nmS i),.int .i64 inode]:=by rw[e,encs_append,encs_cons];rfl
     have lO:O.length+1=d.nm.length+1:=by rw[<-ln,e];simp
     simp(disch:=omega)only[wk,tupled,↓reduceIte,reduceEqDiff,reduceEq,reduceAdd,reduceCtorEq,E3,E4,E8,E9,E10,E12,E13,n2,hnv,h0,h1,h2,h3]
     refine runX_app ow (by decide) (by omega) (by omega) (by decide) rfl rfl ?_
     intro H' o' k' l'
     have h0':=k'.cells ow rfl h0 (by intro s h;cases h)
     have h1':=k'.cells ow rfl h1 (by intro s h;cases h)
     have h2':=k'.cells ow rfl h2 (by intro s h;cases h)
     have h3':=k'.cells ow rfl h3 (by intro s h;cases h)
     obtain⟨X,rfl⟩:=four h0' h1' h2' h3'
     have wp':=wp (.sl 3 (d.nm.length+1) (encs nmC (insN ⟨key,i,inode⟩ d.nm)) (.own H.length)) rfl
     rw[<-lO,eO]at wp'
     rw[er]at wp1 ⊢
     simp(disch:=omega)only[wk,tupled,↓reduceIte,reduceEqDiff,reduceEq,reduceAdd,reduceCtorEq,E3,E4,E8,E9,E10,E12,E13,n2,hnv,zz,wp',fd1,dT1,n1,gX,sX,wl,wp1,pd,fl,fl2,fx,fx2]
 | cons y r=>
   rw[List.length_cons]at la
   have n2:(pr.length:Int)<(d.nm.length:Int):=by omega
   obtain rfl:=hsn (by omega)
   have d1:=nm_drop pr y r
   rw[<-a1]at d1
   have eO:∀q:Nm,encs nmC (O++[q])=encs nmC O++nmC q:=fun q=>by rw[encs_append,encs_cons];simp[encs]
   have lO:∀q:Nm,(O++[q]).length=O.length+1:=fun q=>by simp
   by_cases c1:b=false/\key<y.k
   . obtain⟨rfl,c1⟩:=c1
     rw[if_neg (by decide),insN,if_pos c1]at a2
     simp(disch:=omega)only[wk,tupled,↓reduceIte,reduceEqDiff,reduceEq,reduceAdd,reduceCtorEq,E3,E4,E8,E9,E10,E12,E13,n2,hnv,h0,h1,h2,h3,d1,c1]
     refine runX_app ow (by decide) (by omega) (by omega) (by decide) rfl rfl ?_
     intro H' o' k' l'
     have h0':=k'.cells ow rfl h0 (by intro s h;cases h)
     have h1':=k'.cells ow rfl h1 (by intro s h;cases h)
     have h2':=k'.cells ow rfl h2 (by intro s h;cases h)
     have h3':=k'.cells ow rfl h3 (by intro s h;cases h)
     simp(disch:=omega)only[wk,tupled,↓reduceIte,reduceEqDiff,reduceEq,reduceAdd,reduceCtorEq,E3,E4,E8,E9,E10,E12,E13,n2,hnv,h0',h1',h2',h3',d1]
     refine runX_app o' (by decide) (by omega) (by omega) (by decide) rfl rfl ?_
     intro H2 o2 k2 l2
     have h02:=k2.cells o' rfl h0' (by intro s h;cases h)
     have h12:=k2.cells o' rfl h1' (by intro s h;cases h)
     have h22:=k2.cells o' rfl h2' (by intro s h;cases h)
     have h32:=k2.cells o' rfl h3' (by intro s h;cases h)
     simp(disch:=omega)only[wk,tupled,↓reduceIte,reduceEqDiff,reduceEq,reduceAdd,reduceCtorEq,E13]
     refine ih (pr++[y],r,O++[(⟨key,i,inode⟩:Nm)]++[y],true) _ _ _ (by simp) ⟨by simp[a1],by simpa using a2,by simp only[en,↓reduceIte,reduceEqDiff,E3],by simp only[en,↓reduceIte,reduceEqDiff,E4],by simp only[en,↓reduceIte,reduceEqDiff,E8],by simp only[en,↓reduceIte,reduceEqDiff,E9],by simp only[en,↓reduceIte,reduceEqDiff,E10], ?_, ?_,by simp only[en,↓reduceIte,reduceEqDiff],by simp only[en,↓reduceIte,reduceEqDiff],rfl,by rw[es];exact h02,h12,by rw[ud];exact h22,h32⟩
     . have e2:encs nmC (O++[(⟨key,i,inode⟩:Nm)]++[y])=encs nmC O++nmC (⟨key,i,inode⟩:Nm)++nmC y:=by rw[encs_append,eO,encs_cons];simp[encs]
       have l2:(O++[(⟨key,i,inode⟩:Nm)]++[y]).length=O.length+1+1:=by simp
       dsimp only;rw[e2,l2];simp only[en,↓reduceIte,reduceEqDiff];exact o2
     . intro s n c;simp only[en,↓reduceIte,reduceEqDiff];intro h;cases h
   . have a3:(O++[y])++(if b then r else insN ⟨key,i,inode⟩ r)=insN ⟨key,i,inode⟩ d.nm:=by
       rw[<-a2]
       cases b with
       |true=>simp
       |false=>rw[if_neg (by decide),if_neg (by decide),insN,if_neg (fun h=>c1 ⟨rfl,h⟩)];simp
     cases b with
     | true=>
       simp(disch:=omega)only[wk,tupled,↓reduceIte,reduceEqDiff,reduceEq,reduceAdd,reduceCtorEq,E3,E4,E8,E9,E10,E12,E13,n2,hnv,h0,h1,h2,h3,d1]
       refine runX_app ow (by decide) (by omega) (by omega) (by decide) rfl rfl ?_
       intro H2 o2 k2 l2
       have h02:=k2.cells ow rfl h0 (by intro s h;cases h)
       have h12:=k2.cells ow rfl h1 (by intro s h;cases h)
       have h22:=k2.cells ow rfl h2 (by intro s h;cases h)
       have h32:=k2.cells ow rfl h3 (by intro s h;cases h)
       simp(disch:=omega)only[wk,tupled,↓reduceIte,reduceEqDiff,reduceEq,reduceAdd,reduceCtorEq,E13]
       refine ih (pr++[y],r,O++[y],true) _ _ _ (by simp) ⟨by simp[a1],a3,by simp only[en,↓reduceIte,reduceEqDiff,E3],by simp only[en,↓reduceIte,reduceEqDiff,E4],by simp only[en,↓reduceIte,reduceEqDiff,E8],by simp only[en,↓reduceIte,reduceEqDiff,E9],by simp only[en,↓reduceIte,reduceEqDiff,E10], ?_, ?_,by simp only[en,↓reduceIte,reduceEqDiff,E12],by simp only[en,↓reduceIte,reduceEqDiff],rfl,by rw[es];exact h02,h12,by rw[ud];exact h22,h32⟩
       . dsimp only;rw[eO,lO];simp only[en,↓reduceIte,reduceEqDiff];exact o2
       . intro s n c;simp only[en,↓reduceIte,reduceEqDiff];intro h;cases h
     | false=>
       have c1:¬key<y.k:=fun h=>c1 ⟨rfl,h⟩
       simp(disch:=omega)only[wk,tupled,↓reduceIte,reduceEqDiff,reduceEq,reduceAdd,reduceCtorEq,E3,E4,E8,E9,E10,E12,E13,n2,hnv,h0,h1,h2,h3,d1,c1]
       refine runX_app ow (by decide) (by omega) (by omega) (by decide) rfl rfl ?_
       intro H2 o2 k2 l2
       have h02:=k2.cells ow rfl h0 (by intro s h;cases h)
       have h12:=k2.cells ow rfl h1 (by intro s h;cases h)
       have h22:=k2.cells ow rfl h2 (by intro s h;cases h)
       have h32:=k2.cells ow rfl h3 (by intro s h;cases h)
       simp(disch:=omega)only[wk,tupled,↓reduceIte,reduceEqDiff,reduceEq,reduceAdd,reduceCtorEq,E13]
       refine ih (pr++[y],r,O++[y],false) _ _ _ (by simp) ⟨by simp[a1],a3,by simp only[en,↓reduceIte,reduceEqDiff,E3],by simp only[en,↓reduceIte,reduceEqDiff,E4],by simp only[en,↓reduceIte,reduceEqDiff,E8],by simp only[en,↓reduceIte,reduceEqDiff,E9],by simp only[en,↓reduceIte,reduceEqDiff,E10], ?_, ?_,by simp only[en,↓reduceIte,reduceEqDiff,E12],by simp only[en,↓reduceIte,reduceEqDiff],rfl,by rw[es];exact h02,h12,by rw[ud];exact h22,h32⟩
       . dsimp only;rw[eO,lO];simp only[en,↓reduceIte,reduceEqDiff];exact o2
       . intro s n c;simp only[en,↓reduceIte,reduceEqDiff];intro h;cases h
theorem oneT:∀{T:List Tv},okT T->allOne (encs tvC T)=true
 |[],_=>rfl
 |t::T,h=>by rw[encs_cons,allOne_append,tvC_one (h t (List.mem_cons_self ..)),oneT fun x hx=>h x (List.mem_cons_of_mem _ hx)];rfl
theorem appF_T {pre suf:List Tv} (hp:okT pre) (h0:pre≠[]) (hl:pre.length<=1000) (tk:Tk) (g:Nat):
   appF 7 96 (.sl 7 0 [] .e) (.sl 7 pre.length (encs tvC (pre++suf)) tk) g=some (.sl 7 pre.length (encs tvC pre) (.own g),some (.tok 7)):=by
 have t2:List.take (pre.length*7) (encs tvC (pre++suf))=encs tvC pre:=by rw[encs_append,List.take_append_of_le_length (by rw[len7];exact Nat.le_refl _),List.take_of_length_le (by rw[len7];exact Nat.le_refl _)]
 have hn:pre.length≠0:=fun h=>h0 (List.eq_nil_of_length_eq_zero h)
 simp only[appF,t2,oneT hp]
 rw[if_pos ⟨by omega,by omega,by omega,hn,trivial,rfl,trivial,by rw[len7];simp;omega,trivial⟩]
theorem appG_T {pre suf:List Tv} (hs:okT suf) (hl:pre.length+suf.length<=1000) {h g g0:Nat} {G:Heap} (hg:G[g0]? =some (.tok 7)) (hh:h<=g0) (tk:Tk):
   appG h 7 96 [] (.sl 7 pre.length (encs tvC pre) (.own g0)) (.sl 7 suf.length (encs tvC suf) tk) G g=some (.sl 7 (pre.length+suf.length) (encs tvC pre++encs tvC suf) (.own g),some (.tok 7)):=by
 have t2:List.take (suf.length*7) (encs tvC suf)=encs tvC suf:=List.take_of_length_le (by rw[len7];exact Nat.le_refl _)
 have hr:rowN 7 96 [] (.sl 7 suf.length (encs tvC suf) tk)=some (suf.length,encs tvC suf):=by
   simp only[rowN,t2,oneT hs]
   rw[if_pos ⟨rfl,.inr trivial,by rw[len7];exact Nat.le_refl _,trivial⟩]
 simp only[appG,appGo,hr,hg]
 rw[if_pos ⟨hh,trivial,trivial,by omega,by omega,by omega⟩]
theorem loses_pc {f:Frm} {T:List Tv} (hT:okT T) (hl:T.length<=800) {tk:Tk} (ht:tk= .ro∨tk= .e) {pre suf:List Tv} {x:Tv} (e1:T=pre++x::suf) (h0:pre≠[]) {inode:Int} (e2:findM T inode 0=((pre.length:Nat):Int)) (hx:x.l=1):
   (cbL tab).pc 120 [.agg (stC f T tk),.int .i64 inode]=some (.plain (.agg (stC f ((pre++suf).map Tv.cp) .ro))):=by
 have hh:=hf_st f hT (tk:=tk) (by rcases ht with rfl|rfl<;>rfl)
 have hp:okT pre:=fun t h=>hT t (by rw[e1];simp[h])
 have hs:okT suf:=fun t h=>hT t (by rw[e1];simp[h])
 have hps:okT (pre++suf):=fun t h=>(List.mem_append.1 h).elim (hp t) (hs t)
 have lT:T.length=pre.length+(suf.length+1):=by rw[e1];simp
 have hpn:pre.length≠0:=fun h=>h0 (List.eq_nil_of_length_eq_zero h)
 refine pc_wp6 (fi:=c120) rfl ?_ (by simp[c120]) (by decide) ?_
 . simp only[pcOn,List.map_cons,List.map_nil,lend_st f T ht,lend_int,c120,hfL,AV.hf,hh,Bool.and_self]
 unfold c120
 rw[List.map_cons,List.map_cons,List.map_nil,lend_st f T ht,lend_int]
 have okC:∀t∈(pre++suf).map Tv.cp,t.ok:=fun t h=>by
   obtain⟨y,hy,rfl⟩:=List.mem_map.1 h
   exact Tv.cp_ok (hps y hy).few
 have pd:=pd_st f okC (by rw[List.map_map];exact List.map_congr_left fun t _=>un_cp t)
 have fd:=fun H=>find_px f hT (by omega) inode ht H
 rw[e2]at fd
 have cp:=fun tk H=>copied_px hps (by simp[h0]) (by simp;omega) tk H
 have dT:=tv_drop pre x suf
 have aF:=fun g=>appF_T (suf:=x::suf) hp h0 (by omega) .ro g
 rw[<-e1]at dT aF
 have xo:=hT x (by rw[e1];simp)
 have n0:(pre.length:Int)<(T.length:Int):=by omega
 have d2:List.drop ((pre.length+1)*7) (encs tvC T)=encs tvC suf:=by
   rw[e1,show pre++x::suf=(pre++[x])++suf by simp,show pre.length+1=(pre++[x]).length by simp,drop_pre]
 have tn:((pre.length:Int)+1).toNat=pre.length+1:=by omega
 have ls:T.length-(pre.length+1)=suf.length:=by omega
 have aG:=fun(h g g0:Nat) (G:Heap) (hg:G[g0]? =some (.tok 7)) (hh:h<=g0)=>appG_T (pre:=pre) hs (by omega) (g:=g) hg hh .ro
 have fl:AV.one x.bv=true:=xo.b.one
 have fl2:AV.one x.nv=true:=xo.n.one
 obtain⟨R,hR⟩:∃R,R=(pre++suf).map Tv.cp:=⟨_,rfl⟩
 have lR:R.length=pre.length+suf.length:=by rw[hR];simp
 rw[<-hR]at pd cp ⊢
 rw[List.length_append,encs_append]at cp
 have es:stC f T tk=[.int .i64 f.b,.int .i64 f.i,.int .i64 f.r,.int .i64 f.t,.int .u64 5,.int .u64 6,.int .i64 9,.int .i64 (9+f.i/4),.int .i64 (9+f.i/4+f.r/4),.int .i64 (9+f.i/4+f.r/4+1),.sl 7 T.length (encs tvC T) tk]:=rfl
 have er:stC f R .ro=[.int .i64 f.b,.int .i64 f.i,.int .i64 f.r,.int .i64 f.t,.int .u64 5,.int .u64 6,.int .i64 9,.int .i64 (9+f.i/4),.int .i64 (9+f.i/4+f.r/4),.int .i64 (9+f.i/4+f.r/4+1),.sl 7 (pre.length+suf.length) (encs tvC R) .ro]:=by rw[<-lR];rfl
 rw[es]at fd ⊢
 rw[er]at pd ⊢
 have q1:pre.length*7<=(encs tvC T).length:=by rw[len7];omega
 have q2:T.length*7<=(encs tvC T).length:=by rw[len7];exact Nat.le_refl _
 have q3:pre.length+1<=T.length:=by omega
 have aG':=fun a b c=>aG 3 4 3 [a,b,c,.tok 7] rfl (by omega)
 simp(disch:=omega)only[wk,tupled,↓reduceIte,reduceEqDiff,reduceEq,reduceAdd,reduceCtorEq,fd,dT,n0,fl,fl2,hx,q1,q2,q3,aF,tn,d2,ls,aG',cp,pd,wantedE_none,List.append_nil,List.set_cons_zero,List.set_cons_succ,Int.reduceToNat,Int.reduceAdd,Int.reduceSub,Int.reduceMul,Int.reduceNeg,Nat.reduceSub,Nat.reduceDiv]
theorem loses_px {f:Frm} {T:List Tv} (hT:okT T) (hl:T.length<=800) {tk:Tk} (ht:tk= .ro∨tk= .e) {pre suf:List Tv} {x:Tv} (e1:T=pre++x::suf) (h0:pre≠[]) {inode:Int} (e2:findM T inode 0=((pre.length:Nat):Int)) (hx:x.l=1) (H:Heap):
   pcx (cbL tab) 120 [.agg (stC f T tk),.int .i64 inode] H=some (.plain (.agg (stC f ((pre++suf).map Tv.cp) .ro))):=pcx_N rfl (loses_pc hT hl ht e1 h0 e2 hx)
def delN (l:List Nm) (i:Nat):List Nm:=l.filter fun x=>decide (x.i≠i)
def whoN (l:List Nm) (i:Nat):Int->Int
 |a=>l.foldl (fun a x=>if x.i=i then x.n else a) a
theorem nmS_inj {i j:Nat} (hi:i<30) (hj:j<30):((nmS i).toList==(nmS j).toList)=decide (i=j):=by
 rw[ByteArray.toList_eq,ByteArray.toList_eq]
 show([UInt8.ofNat (97+i)]==[UInt8.ofNat (97+j)])=_
 by_cases h:i=j
 . subst h;simp
 . have:UInt8.ofNat (97+i)≠UInt8.ofNat (97+j):=fun e=>by
     have e2:(97+i) % 256=(97+j) % 256:=congrArg UInt8.toNat e
     omega
   rw[decide_eq_false h]
   exact beq_false_of_ne fun e=>this (List.cons.inj e).1
theorem three {H:Heap} {a b c:AObj} (h0:H[0]? =some a) (h1:H[1]? =some b) (h2:H[2]? =some c):∃X,H=a::b::c::X:=by
 match H,h0,h1,h2 with
 | w::x::y::X,h0,h1,h2=>
   cases h0;cases h1;cases h2
   exact⟨X,rfl⟩
theorem delN_cons (y:Nm) (l:List Nm) (i:Nat):delN (y::l) i=if y.i=i then delN l i else y::delN l i:=by
 unfold delN
 rw[List.filter_cons]
 by_cases h:y.i=i<;>simp[h]
theorem unnamed_pc {f:Frm} {T:List Tv} (hT:okT T) (hl:T.length<=700) {tk:Tk} (ht:tk= .ro∨tk= .e) {pre suf:List Tv} {d:Tv} (e1:T=pre++d::suf) {dir:Int} (e2:findM T dir 0=((pre.length:Nat):Int)) (hi30:∀x∈d.nm,x.i<30) {i:Nat} (hi:i<30)
   {T1 pre1 suf1:List Tv} {x:Tv} (e3:T1=withM T {d with nm:=delN d.nm i,nv:=slvR 3 nmC (delN d.nm i)}) (e4:T1=pre1++x::suf1) (h0:pre1≠[]) (e5:findM T1 (whoN d.nm i 0) 0=((pre1.length:Nat):Int)) (hx:x.l=1):
   (cbL tab).pc 92 [.agg (stC f T tk),.int .i64 dir,.str (nmS i)]=some (.plain (.agg (stC f ((pre1++suf1).map Tv.cp) .ro))):=by
 have hh:=hf_st f hT (tk:=tk) (by rcases ht with rfl|rfl<;>rfl)
 have hd:=hT d (by rw[e1];simp)
 have few:=hd.few
 have ldl:(delN d.nm i).length<=d.nm.length:=List.length_filter_le _ _
 have hd1:({d with nm:=delN d.nm i,nv:=slvR 3 nmC (delN d.nm i)}:Tv).ok:=by
   refine⟨hd.b, ?_,by dsimp only;omega⟩
   obtain⟨s,tk,h,h2,h3⟩:=slvR_form 3 nmC (delN d.nm i)
   exact⟨s,tk,h,fun hn=>h2 fun e=>hn (by rw[e];rfl),h3⟩
 have hT1:okT T1:=e3▸withM_ok hT hd1
 have l1:T1.length<=701:=by rw[e3];have:=withM_len T {d with nm:=delN d.nm i,nv:=slvR 3 nmC (delN d.nm i)};omega
 refine pc_wp6 (fi:=c92) rfl ?_ (by simp[c92]) (by decide) ?_
 . simp only[pcOn,List.map_cons,List.map_nil,lend_st f T ht,lend_int,lend_str,c92,hfL,AV.hf,hh,Bool.and_self]
 unfold c92
 rw[List.map_cons,List.map_cons,List.map_cons,List.map_nil,lend_st f T ht,lend_int,lend_str]
 have okC:∀t∈(pre1++suf1).map Tv.cp,t.ok:=fun t h=>by
   obtain⟨y,hy,rfl⟩:=List.mem_map.1 h
   refine Tv.cp_ok (hT1 y ?_).few
   rw[e4]
   rcases List.mem_append.1 hy with h|h<;>simp[h]
 have pd:=pd_st f okC (by rw[List.map_map];exact List.map_congr_left fun t _=>un_cp t)
 have fd:=fun H=>find_px f hT (by omega) dir ht H
 rw[e2]at fd
 have lp:=fun H=>loses_px (f:=f) hT1 (by omega) (tk:= .ro) (.inl rfl) e4 h0 e5 hx H
 have dT:=tv_drop pre d suf
 rw[<-e1]at dT
 have wp:=fun w (hw:unown w=_) H=>with_pxo f hT (by omega) ht hd1 (v:=d.bv) (w:=w) (by obtain⟨s,t,h,_,q⟩:=hd.b;show unown d.bv=d.bv;rw[h];cases t<;>first|rfl|cases q) hw H
 rw[<-e3]at wp
 dsimp only at wp
 have n0:(pre.length:Int)<(T.length:Int):=by rw[e1];simp;omega
 obtain⟨sn,tn,hnv,hsn,_⟩:=hd.n
 have fl:AV.one d.bv=true:=hd.b.one
 have fl2:AV.one d.nv=true:=hd.n.one
 obtain⟨R,hR⟩:∃R,R=(pre1++suf1).map Tv.cp:=⟨_,rfl⟩
 rw[<-hR]at pd lp ⊢
 have es:stC f T tk=[.int .i64 f.b,.int .i64 f.i,.int .i64 f.r,.int .i64 f.t,.int .u64 5,.int .u64 6,.int .i64 9,.int .i64 (9+f.i/4),.int .i64 (9+f.i/4+f.r/4),.int .i64 (9+f.i/4+f.r/4+1),.sl 7 T.length (encs tvC T) tk]:=rfl
 have es1:stC f T1 .ro=[.int .i64 f.b,.int .i64 f.i,.int .i64 f.r,.int .i64 f.t,.int .u64 5,.int .u64 6,.int .i64 9,.int .i64 (9+f.i/4),.int .i64 (9+f.i/4+f.r/4),.int .i64 (9+f.i/4+f.r/4+1),.sl 7 T1.length (encs tvC T1) .ro]:=rfl
 have er:stC f R .ro=[.int .i64 f.b,.int .i64 f.i,.int .i64 f.r,.int .i64 f.t,.int .u64 5,.int .u64 6,.int .i64 9,.int .i64 (9+f.i/4),.int .i64 (9+f.i/4+f.r/4),.int .i64 (9+f.i/4+f.r/4+1),.sl 7 R.length (encs tvC R) .ro]:=rfl
 rw[es]at fd wp ⊢
 rw[es1]at wp lp
 rw[er]at pd lp ⊢
 have zz:zst=[.int .i64 0,.int .i64 0,.int .i64 0,.int .i64 0,.int .u64 0,.int .u64 0,.int .i64 0,.int .i64 0,.int .i64 0,.int .i64 0,.sl 0 0 [] .z]:=rfl
 have ud:tvC d=[.int .i64 d.n,.int .i64 d.k,.int .i64 d.l,d.bv,.int .i64 d.p,d.nv,.str (ByteArray.mk (Array.mk []))]:=rfl
 simp(disch:=omega)only[wk,tupled,↓reduceIte,reduceEqDiff,reduceEq,reduceAdd,reduceCtorEq,fd,dT,n0,fl,fl2]
 refine loop_ind (fun(y:List Nm×List Nm×List Nm×Int) E df H=>d.nm=y.1++y.2.1/\y.2.2.1++delN y.2.1 i=delN d.nm i/\whoN d.nm i 0=whoN y.2.1 i y.2.2.2/\E 2= .str (nmS i)/\E 3= .ptr 0 0/\E 6= .ptr 1 0/\E 7= .ptr 2 0/\Own H 3 (E 8) y.2.2.1.length (encs nmC y.2.2.1)/\(∀s n c,E 8≠ .sl s n c .e)/\E 9= .int .i64 y.2.2.2/\E 10= .int .i64 ((y.1.length:Nat):Int)/\df=[]/\H[0]? =some (.cells (stC f T tk))/\H[1]? =some (.cells zst)/\H[2]? =some (.cells (tvC d)))
   (fun y=>y.2.1.length) ([],d.nm,[],0) (by decide) (.inl rfl) ⟨rfl,rfl,rfl,rfl,rfl,rfl,rfl,.inl ⟨.inl rfl,rfl,rfl⟩,(by intro s n c h;cases h),rfl,rfl,rfl,rfl,rfl,rfl⟩ ?_
 intro ⟨pr,sf,O,w⟩ E df H ih hP
 obtain⟨a1,a2,a3,E2,E3,E6,E7,ow,nE,E9,E10,hdf,h0',h1',h2'⟩:=hP
 dsimp only at a1 a2 a3 ow E9 E10
 rw[es]at h0'
 rw[ud]at h2'
 subst hdf
 have la:d.nm.length=pr.length+sf.length:=by rw[a1,List.length_append]
 have lo:O.length<=d.nm.length:=by
   have:=congrArg List.length a2
   rw[List.length_append]at this
   omega
 cases sf with
 | nil=>
   have n2:¬(pr.length:Int)<(d.nm.length:Int):=by rw[la];simp
   have e:O=delN d.nm i:=by rw[<-a2];simp[delN]
   have ew:whoN d.nm i 0=w:=a3
   have ou:=own_unown ow nE
   have wp':=wp (E 8) (by rw[ou,e])
   have o1:(E 8).one=true:=by obtain⟨s,m,c,t,h⟩:=own_sl ow;rw[h];rfl
   have o2:(E 8).flat=[E 8]:=by obtain⟨s,m,c,t,h⟩:=own_sl ow;rw[h];rfl
   rw[ew]at lp
   obtain⟨X,rfl⟩:=three h0' h1' h2'
   simp(disch:=omega)only[wk,tupled,↓reduceIte,reduceEqDiff,reduceEq,reduceAdd,reduceCtorEq,E2,E3,E6,E7,E9,E10,n2,hnv,zz,o1,o2,wp',lp,pd,fl]
 | cons y r=>
   rw[List.length_cons]at la
   have n2:(pr.length:Int)<(d.nm.length:Int):=by omega
   obtain rfl:=hsn (by omega)
   have d1:=nm_drop pr y r
   rw[<-a1]at d1
   have sq:=nmS_inj (hi30 y (by rw[a1];simp)) hi
   rw[delN_cons]at a2
   have a3':whoN d.nm i 0=whoN r i (if y.i=i then y.n else w):=a3
   by_cases h:y.i=i
   . rw[if_pos h]at a2 a3'
     rw[decide_eq_true h]at sq
     simp(disch:=omega)only[wk,tupled,↓reduceIte,reduceEqDiff,reduceEq,reduceAdd,reduceCtorEq,E2,E3,E6,E7,E9,E10,n2,hnv,h0',h1',h2',d1,bv_streq,sq]
     exact ih (pr++[y],r,O,y.n) _ _ _ (by simp) ⟨by simp[a1],a2,a3',by simp only[en,↓reduceIte,reduceEqDiff,E2],by simp only[en,↓reduceIte,reduceEqDiff,E3],by simp only[en,↓reduceIte,reduceEqDiff,E6],by simp only[en,↓reduceIte,reduceEqDiff,E7],by simp only[en,↓reduceIte,reduceEqDiff];exact ow,by simp only[en,↓reduceIte,reduceEqDiff];exact nE,by simp only[en,↓reduceIte,reduceEqDiff],by simp only[en,↓reduceIte,reduceEqDiff],rfl,by rw[es];exact h0',h1',by rw[ud];exact h2'⟩
   . rw[if_neg h]at a2 a3'
     rw[decide_eq_false h]at sq
     have eO:encs nmC (O++[y])=encs nmC O++nmC y:=by rw[encs_append,encs_cons];simp[encs]
     have lO:(O++[y]).length=O.length+1:=by simp
     simp(disch:=omega)only[wk,tupled,↓reduceIte,reduceEqDiff,reduceEq,reduceAdd,reduceCtorEq,E2,E3,E6,E7,E9,E10,n2,hnv,h0',h1',h2',d1,bv_streq,sq]
     refine runX_app ow (by decide) (by omega) (by omega) (by decide) rfl rfl ?_
     intro H2 o2 k2 l2
     have h02:=k2.cells ow rfl h0' (by intro s h;cases h)
     have h12:=k2.cells ow rfl h1' (by intro s h;cases h)
     have h22:=k2.cells ow rfl h2' (by intro s h;cases h)
     simp(disch:=omega)only[wk,tupled,↓reduceIte,reduceEqDiff,reduceEq,reduceAdd,reduceCtorEq,E10]
     refine ih (pr++[y],r,O++[y],w) _ _ _ (by simp) ⟨by simp[a1],by simpa using a2,a3',by simp only[en,↓reduceIte,reduceEqDiff,E2],by simp only[en,↓reduceIte,reduceEqDiff,E3],by simp only[en,↓reduceIte,reduceEqDiff,E6],by simp only[en,↓reduceIte,reduceEqDiff,E7], ?_, ?_,by simp only[en,↓reduceIte,reduceEqDiff,E9],by simp only[en,↓reduceIte,reduceEqDiff],rfl,by rw[es];exact h02,h12,by rw[ud];exact h22⟩
     . dsimp only;rw[eO,lO];simp only[en,↓reduceIte,reduceEqDiff];exact o2
     . intro s n c;simp only[en,↓reduceIte,reduceEqDiff];intro h;cases h
def askM:List Nm->Nat->Option Int
 |[],_=>none
 |y::r,i=>if y.i=i then some y.n else askM r i
structure Ref1 (T:List Tv) (d:Tv) (suf:List Tv):Prop where
 e:T=d::suf
 n:d.n=1
 i:∀y∈d.nm,y.i<30
 at_:∀y∈d.nm,∃pre x suf,T=pre++x::suf/\findM T y.n 0=((pre.length:Nat):Int)/\x.n=y.n/\x.k=1
def fndV (o:Option Int):AV:=match o with
 |some n=> .tup [.agg [.int .i64 n,.int .i64 1,.str (ByteArray.mk (Array.mk []))],.bool true]
 |none=> .tup [.agg [.int .i64 0,.int .i64 0,.str (ByteArray.mk (Array.mk []))],.bool false]
theorem nmS_dd {i:Nat} (hi:i<30):((nmS i).toList==(ByteArray.mk (Array.mk [UInt8.ofNat 46,UInt8.ofNat 46])).toList)=false:=by
 rw[ByteArray.toList_eq,ByteArray.toList_eq]
 show([UInt8.ofNat (97+i)]==[UInt8.ofNat 46,UInt8.ofNat 46])=false
 exact beq_false_of_ne fun e=>by cases (List.cons.inj e).2
theorem ask_pc {f:Frm} {T:List Tv} (hT:okT T) (hl:T.length<=800) {d:Tv} {suf:List Tv} (r:Ref1 T d suf) {i:Nat} (hi:i<30):
   (cbL tab).pc 98 [.agg (stC f T .ro),.int .i64 1,.str (nmS i)]=some (.plain (fndV (askM d.nm i))):=by
 obtain⟨e1,dn,di,dat⟩:=r
 have hh:=hf_st f hT (tk:= .ro) rfl
 have hd:=hT d (by rw[e1];simp)
 refine pc_wp6 (fi:=c98) rfl ?_ (by simp[c98]) (by decide) ?_
 . simp only[pcOn,List.map_cons,List.map_nil,lend_st f T (.inl rfl),lend_int,lend_str,c98,hfL,AV.hf,hh,Bool.and_self]
 unfold c98
 rw[List.map_cons,List.map_cons,List.map_cons,List.map_nil,lend_st f T (.inl rfl),lend_int,lend_str]
 have fd:=fun n H=>find_px f hT (by omega) n (.inl rfl) H
 have f1:findM T 1 0=0:=by rw[e1,findM,if_pos dn]
 have dT:=tv_drop [] d suf
 rw[List.nil_append,<-e1,List.length_nil,Nat.zero_mul]at dT
 have dd:=nmS_dd hi
 have few:=hd.few
 have n0:(0:Int)<(T.length:Int):=by rw[e1];simp
 obtain⟨sn,tn,hnv,hsn,_⟩:=hd.n
 have eT:List.drop 0 (encs tvC T)= .int .i64 d.n:: .int .i64 d.k:: .int .i64 d.l::d.bv:: .int .i64 d.p::d.nv:: .str (ByteArray.mk (Array.mk []))::encs tvC suf:=dT
 rw[List.drop_zero]at eT
 have e5:List.drop 5 (encs tvC T)=d.nv:: .str (ByteArray.mk (Array.mk []))::encs tvC suf:=by rw[eT];rfl
 clear eT dT
 obtain⟨R,hR⟩:∃R,R=askM d.nm i:=⟨_,rfl⟩
 rw[<-hR]
 have es:stC f T .ro=[.int .i64 f.b,.int .i64 f.i,.int .i64 f.r,.int .i64 f.t,.int .u64 5,.int .u64 6,.int .i64 9,.int .i64 (9+f.i/4),.int .i64 (9+f.i/4+f.r/4),.int .i64 (9+f.i/4+f.r/4+1),.sl 7 T.length (encs tvC T) .ro]:=rfl
 rw[es]at fd ⊢
 simp(disch:=omega)only[wk,tupled,↓reduceIte,reduceEqDiff,reduceEq,reduceAdd,reduceCtorEq,fd,f1,dd,bv_streq]
 refine loop_ind (fun(y:List Nm×List Nm) E df H=>d.nm=y.1++y.2/\R=askM y.2 i/\E 2= .str (nmS i)/\E 3= .ptr 0 0/\E 6= .ptr 1 0/\E 8= .int .i64 0/\E 9= .int .i64 ((y.1.length:Nat):Int)/\df=[]/\H=[.cells (stC f T .ro),.cells [.int .i64 0,.int .i64 0,.str (ByteArray.mk (Array.mk []))]])
   (fun y=>y.2.length) ([],d.nm) (by decide) (.inl rfl) ⟨rfl,hR,rfl,rfl,rfl,rfl,rfl,rfl,rfl⟩ ?_
 intro ⟨pr,sf⟩ E df H ih hP
 obtain⟨a1,a2,E2,E3,E6,E8,E9,hdf,hH⟩:=hP
 dsimp only at a1 a2 E9
 rw[es]at hH
 subst hdf hH
 have la:d.nm.length=pr.length+sf.length:=by rw[a1,List.length_append]
 have i0:Int.toNat 0=0:=rfl
 cases sf with
 | nil=>
   have n2:¬(pr.length:Int)<(d.nm.length:Int):=by rw[la];simp
   rw[a2]
   have pd:∀H,purD (some (.ret (.tup [.agg [.int .i64 0,.int .i64 0,.str (ByteArray.mk (Array.mk []))],.bool false]),H))=some (.plain (fndV none)):=fun H=>rfl
   simp(disch:=omega)only[wk,tupled,↓reduceIte,reduceEqDiff,reduceEq,reduceAdd,reduceCtorEq,E2,E3,E6,E8,E9,n2,n0,i0,e5,hnv,askM,pd]
 | cons y r=>
   rw[List.length_cons]at la
   have n2:(pr.length:Int)<(d.nm.length:Int):=by omega
   obtain rfl:=hsn (by omega)
   have d1:=nm_drop pr y r
   rw[<-a1]at d1
   have ym:y∈d.nm:=by rw[a1];simp
   have sq:=nmS_inj (di y ym) hi
   rw[askM]at a2
   by_cases h:y.i=i
   . rw[if_pos h]at a2
     rw[decide_eq_true h]at sq
     rw[a2]
     obtain⟨p2,x,s2,t1,t2,t3,t4⟩:=dat y ym
     have d2:=tv_drop p2 x s2
     rw[<-t1]at d2
     have n3:(p2.length:Int)<(T.length:Int):=by rw[t1];simp;omega
     have xo:=hT x (by rw[t1];simp)
     have xb:=xo.b.one
     have xn:=xo.n.one
     have pd:∀H,purD (some (.ret (.tup [.agg [.int .i64 y.n,.int .i64 1,.str (ByteArray.mk (Array.mk []))],.bool true]),H))=some (.plain (fndV (some y.n))):=fun H=>rfl
     simp(disch:=omega)only[wk,tupled,↓reduceIte,reduceEqDiff,reduceEq,reduceAdd,reduceCtorEq,E2,E3,E6,E8,E9,n2,n0,i0,e5,hnv,d1,bv_streq,sq,fd,t2,n3,d2,t3,t4,xb,xn,pd]
   . rw[if_neg h]at a2
     rw[decide_eq_false h]at sq
     simp(disch:=omega)only[wk,tupled,↓reduceIte,reduceEqDiff,reduceEq,reduceAdd,reduceCtorEq,E2,E3,E6,E8,E9,n2,n0,i0,e5,hnv,d1,bv_streq,sq]
     exact ih (pr++[y],r) _ _ _ (by simp) ⟨by simp[a1],a2,by simp only[en,↓reduceIte,reduceEqDiff,E2],by simp only[en,↓reduceIte,reduceEqDiff,E3],by simp only[en,↓reduceIte,reduceEqDiff,E6],by simp only[en,↓reduceIte,reduceEqDiff,E8],by simp only[en,↓reduceIte,reduceEqDiff],rfl,by rw[es]⟩
def endC (o:Option Int) (i:Nat):List AV:=match o with
 |some n=>[.int .i64 0,.int .i64 1,.str (nmS i),.int .i64 n,.int .i64 1]
 |none=>[.int .i64 270,.int .i64 1,.str (nmS i),.int .i64 0,.int .i64 0]
def endE (o:Option Int):Int:=match o with
 |some _=>0
 |none=>270
theorem way_pc {f:Frm} {T:List Tv} (hT:okT T) (hl:T.length<=800) {d:Tv} {suf:List Tv} (r:Ref1 T d suf) {i:Nat} (hi:i<30):
   (cbL tab).pc 68 [.agg (stC f T .ro),.str (ptS i),.bool false]=some (.plain (.tup [.agg (endC (askM d.nm i) i),.int .i64 (endE (askM d.nm i))])):=by
 have hh:=hf_st f hT (tk:= .ro) rfl
 refine pc_wp6 (fi:=c68) rfl ?_ (by simp[c68]) (by decide) ?_
 . simp only[pcOn,List.map_cons,List.map_nil,lend_st f T (.inl rfl),lend_bool,lend_str,c68,hfL,AV.hf,hh,Bool.and_self]
 unfold c68
 rw[List.map_cons,List.map_cons,List.map_cons,List.map_nil,lend_st f T (.inl rfl),lend_bool,lend_str]
 have nw:=fun H=>up_pc rfl (new_k i hi) H
 have ms:=fun H=>up_pc rfl (miss_k i hi) H
 have gv:=fun n H=>up_pc rfl (give_k n i hi) H
 have ak:=fun H=>up_pc rfl (ask_pc (f:=f) hT hl r hi) H
 unfold wk0 wkV at nw ms gv
 have es:stC f T .ro=[.int .i64 f.b,.int .i64 f.i,.int .i64 f.r,.int .i64 f.t,.int .u64 5,.int .u64 6,.int .i64 9,.int .i64 (9+f.i/4),.int .i64 (9+f.i/4+f.r/4),.int .i64 (9+f.i/4+f.r/4+1),.sl 7 T.length (encs tvC T) .ro]:=rfl
 rw[es]at ak ⊢
 have fq:floatV [AV.ptr 2 5] [AV.ptr 1 0]=true:=rfl
 have pd:∀(o:Option Int) (H:Heap),purD (some (.ret (.tup [.agg (endC o i),.int .i64 (endE o)]),H))=some (.plain (.tup [.agg (endC o i),.int .i64 (endE o)])):=fun o H=>by cases o<;>rfl
 cases hA:askM d.nm i with
 | none=>
   rw[hA]at ak
   have pd:=pd none
   unfold fndV at ak
   unfold endC endE at pd ⊢
   dsimp only at pd ak ⊢
   generalize nmS i=s at*
   simp(disch:=omega)only[wk,tupled,↓reduceIte,reduceEqDiff,reduceEq,reduceAdd,reduceCtorEq,nw,ms,ak,Int.reduceToNat,Int.reduceAdd,Int.reduceSub,Int.reduceMul,Int.reduceNeg,Nat.reduceSub,Nat.reduceDiv]
   rw[ret_loop]
   simp(disch:=omega)only[wk,tupled,↓reduceIte,reduceEqDiff,reduceEq,reduceAdd,reduceCtorEq,nw,ms,ak,Int.reduceToNat,Int.reduceAdd,Int.reduceSub,Int.reduceMul,Int.reduceNeg,Nat.reduceSub,Nat.reduceDiv]
   refine ret_again (by decide) (.inl rfl) ?_
   rw[ret_loop]
   simp(disch:=omega)only[wk,tupled,↓reduceIte,reduceEqDiff,reduceEq,reduceAdd,reduceCtorEq,nw,ms,ak,runG_un,fq,pd]
 | some n=>
   rw[hA]at ak
   have pd:=pd (some n)
   unfold fndV at ak
   unfold endC endE at pd ⊢
   dsimp only at pd ak ⊢
   generalize nmS i=s at*
   simp(disch:=omega)only[wk,tupled,↓reduceIte,reduceEqDiff,reduceEq,reduceAdd,reduceCtorEq,nw,gv,ak,Int.reduceToNat,Int.reduceAdd,Int.reduceSub,Int.reduceMul,Int.reduceNeg,Nat.reduceSub,Nat.reduceDiv]
   rw[ret_loop]
   simp(disch:=omega)only[wk,tupled,↓reduceIte,reduceEqDiff,reduceEq,reduceAdd,reduceCtorEq,nw,gv,ak,Int.reduceToNat,Int.reduceAdd,Int.reduceSub,Int.reduceMul,Int.reduceNeg,Nat.reduceSub,Nat.reduceDiv]
   refine ret_again (by decide) (.inl rfl) ?_
   rw[ret_loop]
   simp(disch:=omega)only[wk,tupled,↓reduceIte,reduceEqDiff,reduceEq,reduceAdd,reduceCtorEq,nw,gv,ak,runG_un,fq,pd]
theorem nmS_z {i:Nat}:((nmS i).toList==(ByteArray.mk (Array.mk [])).toList)=false:=by
 rw[ByteArray.toList_eq,ByteArray.toList_eq]
 rfl
def roomE (o:Option Int):Int:=match o with
 |some _=>280
 |none=>0
theorem room_pc {f:Frm} {T:List Tv} (hT:okT T) (hl:T.length<=800) {d:Tv} {suf:List Tv} (r:Ref1 T d suf) {i:Nat} (hi:i<30):
   (cbL tab).pc 88 [.agg (stC f T .ro),.str (ptS i)]=some (.plain (.tup [.agg (endC (askM d.nm i) i),.int .i64 (roomE (askM d.nm i))])):=by
 have hh:=hf_st f hT (tk:= .ro) rfl
 refine pc_wp6 (fi:=c88) rfl ?_ (by simp[c88]) (by decide) ?_
 . simp only[pcOn,List.map_cons,List.map_nil,lend_st f T (.inl rfl),lend_str,c88,hfL,AV.hf,hh,Bool.and_self]
 unfold c88
 rw[List.map_cons,List.map_cons,List.map_nil,lend_st f T (.inl rfl),lend_str]
 have wy:=fun H=>up_pc rfl (way_pc (f:=f) hT hl r hi) H
 have nz:= @nmS_z i
 have es:stC f T .ro=[.int .i64 f.b,.int .i64 f.i,.int .i64 f.r,.int .i64 f.t,.int .u64 5,.int .u64 6,.int .i64 9,.int .i64 (9+f.i/4),.int .i64 (9+f.i/4+f.r/4),.int .i64 (9+f.i/4+f.r/4+1),.sl 7 T.length (encs tvC T) .ro]:=rfl
 rw[es]at wy ⊢
 have pd:∀(o:Option Int) (H:Heap),purD (some (.ret (.tup [.agg (endC o i),.int .i64 (roomE o)]),H))=some (.plain (.tup [.agg (endC o i),.int .i64 (roomE o)])):=fun o H=>by cases o<;>rfl
 have sn:∀{xo yo:X} {ek:EqK},binV .neq ek xo yo (.str (nmS i)) (.str (ByteArray.mk (Array.mk [])))=some (.bool true):=fun{xo yo ek}=>by
   show some (AV.bool (!((nmS i).toList==(ByteArray.mk (Array.mk [])).toList)))=_
   rw[nz];rfl
 cases hA:askM d.nm i with
 | none=>
   rw[hA]at wy
   have pd:=pd none
   unfold endC roomE at pd ⊢
   unfold endC endE at wy
   dsimp only at pd wy ⊢
   generalize nmS i=s at*
   simp(disch:=omega)only[wk,tupled,↓reduceIte,reduceEqDiff,reduceEq,reduceAdd,reduceCtorEq,wy,sn,pd]
 | some n=>
   rw[hA]at wy
   have pd:=pd (some n)
   unfold endC roomE at pd ⊢
   unfold endC endE at wy
   dsimp only at pd wy ⊢
   generalize nmS i=s at*
   simp(disch:=omega)only[wk,tupled,↓reduceIte,reduceEqDiff,reduceEq,reduceAdd,reduceCtorEq,wy,sn,pd]
def ansC (e n:Int):List AV:=[.int .i64 e,.int .i64 n,.int .i64 0,.int .i64 0,.int .i64 0,.sl 0 0 [] .z,.str (ByteArray.mk (Array.mk [])),.sl 0 0 [] .z,.int .u64 0]
theorem no_px (e:Int) (H:Heap):pcx (cbL tab) 62 [.int .i64 e] H=some (.plain (.agg (ansC e 0))):=by
 refine pcx_N rfl (pc_wp (fi:=c62) rfl rfl (by simp[c62]) (by decide) ?_)
 unfold c62
 rw[List.map_cons,List.map_nil,lend_int]
 simp(disch:=omega)only[wk,tupled,↓reduceIte,reduceEqDiff,reduceEq,reduceAdd,reduceCtorEq,purify,unownT,lend,unown,AV.hf,hfL,Tk.hf]
 rfl
def callC (k:Int) (p:ByteArray):List AV:=[.int .i64 k,.str p,.str (ByteArray.mk (Array.mk [])),.int .i64 0,.int .i64 0,.int .u64 0,.sl 0 0 [] .z]
theorem early_px (k:Int) (hk:k=3∨k=6) (p:ByteArray) (H:Heap):pcx (cbL tab) 61 [.agg (callC k p)] H=some (.plain (.int .i64 0)):=by
 refine pcx_N rfl (pc_wp (fi:=c61) rfl rfl (by simp[c61]) (by decide) ?_)
 unfold c61
 rw[List.map_cons,List.map_nil,show lend (.agg (callC k p))= .agg (callC k p)from rfl]
 unfold callC
 rcases hk with rfl|rfl<;>simp(disch:=omega)only[wk,tupled,↓reduceIte,reduceEqDiff,reduceEq,reduceAdd,reduceCtorEq,purify,unownT,lend,unown,AV.hf,hfL,Tk.hf]
def newF (n:Int):Tv:=⟨n,1,0,.sl 0 0 [] .z,0,[],.sl 0 0 [] .z⟩
theorem newF_ok (n:Int):(newF n).ok:=⟨⟨0,.z,rfl,fun h=>absurd rfl h,rfl⟩,⟨0,.z,rfl,fun h=>absurd rfl h,rfl⟩,by simp[newF]⟩
structure Made (f:Frm) (T:List Tv) (d:Tv) (i:Nat) (R:List Tv) (e n:Int):Prop where
 full:(askM d.nm i≠none∨freeM T f.i.toNat 1=0∨f.r<=namesM T)->R=T/\n=0/\e=(if askM d.nm i≠none then 280 else if freeM T f.i.toNat 1=0 then 285 else 286)
 new:askM d.nm i=none->freeM T f.i.toNat 1≠0->namesM T<f.r->n=freeM T f.i.toNat 1/\e=0/\∃d0 suf0 T1 pre1 x suf1,withM T (newF n)=d0::suf0/\d0.n=1/\d0.nm.length<=900/\T1=withM (withM T (newF n)) (addN f.t.toNat d0 i n)/\T1=pre1++x::suf1/\findM T1 n 0=((pre1.length:Nat):Int)/\0<=x.l/\x.l<=1000/\R=withM T1 {x with l:=x.l+1}
theorem pd_st2 (f:Frm) {T:List Tv} (hw:∀t∈T,t.ok) (hu:T.map un=T) (e n:Int) (H:Heap):purD (some (.ret (.tup [.agg (stC f T .ro),.agg (ansC e n)]),H))=some (.plain (.tup [.agg (stC f T .ro),.agg (ansC e n)])):=by
 have h1:picV H (.tup [.agg (stC f T .ro),.agg (ansC e n)])= .tup [.agg (stC f T .ro),.agg (ansC e n)]:=by
   have:=un_st f T H hw hu
   show AV.tup [picV H (.agg (stC f T .ro)),picV H (.agg (ansC e n))]=_
   rw[this];rfl
 simp only[purD,h1]
 rw[if_pos]
 have:=hf_st f hw (tk:= .ro) rfl
 show(hfL (stC f T .ro)&&(hfL (ansC e n)&&true))=true
 rw[this];rfl
theorem made_pc {f:Frm} (hf:okF f) {T:List Tv} (hT:okT T) (hu:T.map un=T) (hl:T.length<=700) (hn:namesM T<=100000) {d:Tv} {suf:List Tv} (r:Ref1 T d suf) {i:Nat} (hi:i<30) {R:List Tv} {e n:Int} (M:Made f T d i R e n):
   (cbL tab).pc 63 [.agg (stC f T .ro),.str (ptS i),.agg (tvC (newF 0))]=some (.plain (.tup [.agg (stC f R .ro),.agg (ansC e n)])):=by
 have hh:=hf_st f hT (tk:= .ro) rfl
 refine pc_wp6 (fi:=c63) rfl ?_ (by simp[c63]) (by decide) ?_
 . simp only[pcOn,List.map_cons,List.map_nil,lend_st f T (.inl rfl),lend_str,c63,hfL,AV.hf,hh,Bool.and_self];rfl
 unfold c63
 rw[List.map_cons,List.map_cons,List.map_cons,List.map_nil,lend_st f T (.inl rfl),lend_str,show lend (.agg (tvC (newF 0)))= .agg (tvC (newF 0))from rfl]
 have rm:=fun H=>up_pc rfl (room_pc (f:=f) hT (by omega) r hi) H
 have fp:=fun H=>free_px f hf hT (by omega) (tk:= .ro) (.inl rfl) H
 have np:=fun H=>names_px f hT (by omega) (tk:= .ro) (.inl rfl) hn H
 have no:=fun e H=>no_px e H
 have es:∀T,stC f T .ro=[.int .i64 f.b,.int .i64 f.i,.int .i64 f.r,.int .i64 f.t,.int .u64 5,.int .u64 6,.int .i64 9,.int .i64 (9+f.i/4),.int .i64 (9+f.i/4+f.r/4),.int .i64 (9+f.i/4+f.r/4+1),.sl 7 T.length (encs tvC T) .ro]:=fun _=>rfl
 have u0:tvC (newF 0)=[.int .i64 0,.int .i64 1,.int .i64 0,.sl 0 0 [] .z,.int .i64 0,.sl 0 0 [] .z,.str (ByteArray.mk (Array.mk []))]:=rfl
 have un1:tvC (newF n)=[.int .i64 n,.int .i64 1,.int .i64 0,.sl 0 0 [] .z,.int .i64 0,.sl 0 0 [] .z,.str (ByteArray.mk (Array.mk []))]:=rfl
 rw[es]at rm fp np
 rw[es T,u0]
 by_cases hA:askM d.nm i=none
 case neg=>
   obtain⟨rfl,rfl,he⟩:=M.full (.inl hA)
   rw[if_pos hA]at he
   subst he
   obtain⟨m,hm⟩:=Option.ne_none_iff_exists'.1 hA
   rw[hm]at rm
   have pd:=pd_st2 f hT hu 280 0
   unfold endC roomE at rm
   unfold ansC at pd no ⊢
   rw[es]at pd ⊢
   dsimp only at rm
   generalize nmS i=s at*
   simp(disch:=omega)only[wk,tupled,↓reduceIte,reduceEqDiff,reduceEq,reduceAdd,reduceCtorEq,rm,no,pd]
 rw[hA]at rm
 unfold endC roomE at rm
 dsimp only at rm
 by_cases hF:freeM T f.i.toNat 1=0
 . obtain⟨rfl,rfl,he⟩:=M.full (.inr (.inl hF))
   rw[if_neg (fun h=>h hA),if_pos hF]at he
   subst he
   have pd:=pd_st2 f hT hu 285 0
   unfold ansC at pd no ⊢
   rw[es]at pd ⊢
   generalize nmS i=s at*
   simp(disch:=omega)only[wk,tupled,↓reduceIte,reduceEqDiff,reduceEq,reduceAdd,reduceCtorEq,rm,fp,hF,no,pd]
 by_cases hN:f.r<=namesM T
 . obtain⟨rfl,rfl,he⟩:=M.full (.inr (.inr hN))
   rw[if_neg (fun h=>h hA),if_neg hF]at he
   subst he
   have pd:=pd_st2 f hT hu 286 0
   unfold ansC at pd no ⊢
   rw[es]at pd ⊢
   generalize nmS i=s at*
   simp(disch:=omega)only[wk,tupled,↓reduceIte,reduceEqDiff,reduceEq,reduceAdd,reduceCtorEq,rm,fp,hF,np,hN,no,pd]
 obtain⟨hn',rfl,d0,suf0,T1,pre1,x,suf1,m1,m2,m3,m4,m5,m6,m7,m8,rfl⟩:=M.new hA hF (by omega)
 have hT0:okT (withM T (newF n)):=withM_ok hT (newF_ok n)
 have l0:=withM_len T (newF n)
 have hT1:okT T1:=m4▸withM_ok hT0 (addN_ok (hT0 d0 (by rw[m1];simp)) m3 i n)
 have xo:=hT1 x (by rw[m5];simp)
 have pd:=pd_st2 f (withM_ok hT1 (x:={x with l:=x.l+1}) ⟨xo.b,xo.n,xo.few⟩) (withM_un T1 _) 0 n
 have wp:=fun H=>with_px f hT (by omega) (tk:= .ro) (.inl rfl) (newF_ok n) H
 have nd:=fun H=>up_pc rfl (named_pc hf hT0 (by omega) (tk:= .ro) (.inl rfl) (pre:=[]) m1 (dir:=1) (by rw[m1,findM,if_pos m2];rfl) m3 hi m4 m5 m6 ⟨m7,m8⟩) H
 generalize withM T1 {x with l:=x.l+1}=R at*
 generalize withM T (newF n)=T0 at*
 rw[<-hn']at fp
 rw[un1,es,es]at wp
 rw[es,es]at nd
 have fq:floatV [AV.ptr 1 0] [AV.ptr 2 0]=true:=rfl
 unfold ansC at pd no ⊢
 rw[es]at pd ⊢
 have n0:¬n=0:=by rw[hn'];exact hF
 generalize nmS i=s at*
 simp(disch:=omega)only[wk,tupled,↓reduceIte,reduceEqDiff,reduceEq,reduceAdd,reduceCtorEq,rm,fp,n0,np,hN,wp,nd,fq,pd]
structure Gone (f:Frm) (T:List Tv) (d:Tv) (i:Nat) (R:List Tv) (e:Int):Prop where
 no:askM d.nm i=none->R=T/\e=270
 yes:askM d.nm i≠none->e=0/\∃T1 pre1 x suf1,T1=withM T {d with nm:=delN d.nm i,nv:=slvR 3 nmC (delN d.nm i)}/\T1=pre1++x::suf1/\pre1≠[]/\findM T1 (whoN d.nm i 0) 0=((pre1.length:Nat):Int)/\x.l=1/\R=(pre1++suf1).map Tv.cp
theorem remove_pc {f:Frm} {T:List Tv} (hT:okT T) (hu:T.map un=T) (hl:T.length<=700) {d:Tv} {suf:List Tv} (r:Ref1 T d suf) {i:Nat} (hi:i<30) {R:List Tv} {e:Int} (M:Gone f T d i R e):
   (cbL tab).pc 65 [.agg (stC f T .ro),.agg (callC 6 (ptS i))]=some (.plain (.tup [.agg (stC f R .ro),.agg (ansC e 0)])):=by
 have hh:=hf_st f hT (tk:= .ro) rfl
 have lc:lend (.agg (callC 6 (ptS i)))= .agg (callC 6 (ptS i)):=rfl
 refine pc_wp6 (fi:=c65) rfl ?_ (by simp[c65]) (by decide) ?_
 . simp only[pcOn,List.map_cons,List.map_nil,lend_st f T (.inl rfl),lc,c65,hfL,AV.hf,hh,Bool.and_self];rfl
 unfold c65
 rw[List.map_cons,List.map_cons,List.map_nil,lend_st f T (.inl rfl),lc]
 have wy:=fun H=>up_pc rfl (way_pc (f:=f) hT (by omega) r hi) H
 have no:=fun e H=>no_px e H
 have es:∀T,stC f T .ro=[.int .i64 f.b,.int .i64 f.i,.int .i64 f.r,.int .i64 f.t,.int .u64 5,.int .u64 6,.int .i64 9,.int .i64 (9+f.i/4),.int .i64 (9+f.i/4+f.r/4),.int .i64 (9+f.i/4+f.r/4+1),.sl 7 T.length (encs tvC T) .ro]:=fun _=>rfl
 rw[es]at wy
 unfold callC
 have rn:=r.n
 have re:=r.e
 have ri:=r.i
 by_cases hA:askM d.nm i=none
 . obtain⟨rfl,rfl⟩:=M.no hA
   rw[hA]at wy
   have pd:=pd_st2 f hT hu 270 0
   unfold endC endE at wy
   unfold ansC at pd no ⊢
   rw[es]at pd ⊢
   dsimp only at wy
   generalize nmS i=s at*
   simp(disch:=omega)only[wk,tupled,↓reduceIte,reduceEqDiff,reduceEq,reduceAdd,reduceCtorEq,wy,no,pd]
 . obtain⟨m,hm⟩:=Option.ne_none_iff_exists'.1 hA
   obtain⟨rfl,T1,pre1,x,suf1,m1,m2,m3,m4,m5,rfl⟩:=M.yes hA
   rw[hm]at wy
   have ud:=fun H=>up_pc rfl (unnamed_pc (f:=f) hT hl (tk:= .ro) (.inl rfl) (pre:=[]) re (dir:=1) (by rw[re,findM,if_pos rn];rfl) ri hi m1 m2 m3 m4 m5) H
   have hd:=hT d (by rw[re];simp)
   have hd1:({d with nm:=delN d.nm i,nv:=slvR 3 nmC (delN d.nm i)}:Tv).ok:=by
     refine⟨hd.b, ?_, ?_⟩
     . obtain⟨s,tk,h,h2,h3⟩:=slvR_form 3 nmC (delN d.nm i)
       exact⟨s,tk,h,fun hn=>h2 fun e=>hn (by rw[e];rfl),h3⟩
     . have:(delN d.nm i).length<=d.nm.length:=List.length_filter_le _ _
       have:=hd.few
       dsimp only;omega
   have hT1:okT T1:=m1▸withM_ok hT hd1
   have okC:∀t∈(pre1++suf1).map Tv.cp,t.ok:=fun t h=>by
     obtain⟨y,hy,rfl⟩:=List.mem_map.1 h
     refine Tv.cp_ok (hT1 y ?_).few
     rw[m2]
     rcases List.mem_append.1 hy with h|h<;>simp[h]
   have pd:=pd_st2 f okC (by rw[List.map_map];exact List.map_congr_left fun t _=>un_cp t) 0 0
   generalize (pre1++suf1).map Tv.cp=R at*
   unfold endC endE at wy
   unfold ansC at pd
   rw[es,es]at ud
   unfold ansC
   rw[es]at pd ⊢
   rw[es]
   dsimp only at wy
   generalize nmS i=s at*
   simp(disch:=omega)only[wk,tupled,↓reduceIte,reduceEqDiff,reduceEq,reduceAdd,reduceCtorEq,wy,ud,runG_un,pd]
theorem do_new {f:Frm} (hf:okF f) {T:List Tv} (hT:okT T) (hu:T.map un=T) (hl:T.length<=700) (hn:namesM T<=100000) {d:Tv} {suf:List Tv} (r:Ref1 T d suf) {i:Nat} (hi:i<30) {R:List Tv} {e n:Int} (M:Made f T d i R e n) (hR:okT R) (hRu:R.map un=R) (H:Heap):
   pcx (cbL tab) 34 [.agg (stC f T .ro),.agg (callC 3 (ptS i))] H=some (.plain (.tup [.agg (stC f R .ro),.agg (ansC e n)])):=by
 have hh:=hf_st f hT (tk:= .ro) rfl
 have lc:lend (.agg (callC 3 (ptS i)))= .agg (callC 3 (ptS i)):=rfl
 refine pcx_N rfl (pc_wp6 (fi:=c34) rfl ?_ (by simp[c34]) (by decide) ?_)
 . simp only[pcOn,List.map_cons,List.map_nil,lend_st f T (.inl rfl),lc,c34,hfL,AV.hf,hh,Bool.and_self];rfl
 unfold c34
 rw[List.map_cons,List.map_cons,List.map_nil,lend_st f T (.inl rfl),lc]
 have ea:=fun H=>early_px 3 (.inl rfl) (ptS i) H
 have mp:=fun H=>up_pc rfl (made_pc hf hT hu hl hn r hi M) H
 have es:∀T,stC f T .ro=[.int .i64 f.b,.int .i64 f.i,.int .i64 f.r,.int .i64 f.t,.int .u64 5,.int .u64 6,.int .i64 9,.int .i64 (9+f.i/4),.int .i64 (9+f.i/4+f.r/4),.int .i64 (9+f.i/4+f.r/4+1),.sl 7 T.length (encs tvC T) .ro]:=fun _=>rfl
 have pd:=pd_st2 f hR hRu e n
 have u0:tvC (newF 0)=[.int .i64 0,.int .i64 1,.int .i64 0,.sl 0 0 [] .z,.int .i64 0,.sl 0 0 [] .z,.str (ByteArray.mk (Array.mk []))]:=rfl
 rw[es T,es R,u0]at mp
 rw[es]at pd
 rw[es T,es R]
 unfold callC at ea ⊢
 unfold ansC at mp pd ⊢
 generalize ptS i=s at*
 simp(disch:=omega)only[wk,tupled,↓reduceIte,reduceEqDiff,reduceEq,reduceAdd,reduceCtorEq,ea,mp,pd]
theorem do_gone {f:Frm} {T:List Tv} (hT:okT T) (hu:T.map un=T) (hl:T.length<=700) {d:Tv} {suf:List Tv} (r:Ref1 T d suf) {i:Nat} (hi:i<30) {R:List Tv} {e:Int} (M:Gone f T d i R e) (hR:okT R) (hRu:R.map un=R) (H:Heap):
   pcx (cbL tab) 34 [.agg (stC f T .ro),.agg (callC 6 (ptS i))] H=some (.plain (.tup [.agg (stC f R .ro),.agg (ansC e 0)])):=by
 have hh:=hf_st f hT (tk:= .ro) rfl
 have lc:lend (.agg (callC 6 (ptS i)))= .agg (callC 6 (ptS i)):=rfl
 refine pcx_N rfl (pc_wp6 (fi:=c34) rfl ?_ (by simp[c34]) (by decide) ?_)
 . simp only[pcOn,List.map_cons,List.map_nil,lend_st f T (.inl rfl),lc,c34,hfL,AV.hf,hh,Bool.and_self];rfl
 unfold c34
 rw[List.map_cons,List.map_cons,List.map_nil,lend_st f T (.inl rfl),lc]
 have ea:=fun H=>early_px 6 (.inr rfl) (ptS i) H
 have mp:=fun H=>up_pc rfl (remove_pc hT hu hl r hi M) H
 have es:∀T,stC f T .ro=[.int .i64 f.b,.int .i64 f.i,.int .i64 f.r,.int .i64 f.t,.int .u64 5,.int .u64 6,.int .i64 9,.int .i64 (9+f.i/4),.int .i64 (9+f.i/4+f.r/4),.int .i64 (9+f.i/4+f.r/4+1),.sl 7 T.length (encs tvC T) .ro]:=fun _=>rfl
 have pd:=pd_st2 f hR hRu e 0
 rw[es T,es R]at mp
 rw[es]at pd
 rw[es T,es R]
 unfold callC at ea mp ⊢
 unfold ansC at mp pd ⊢
 generalize ptS i=s at*
 simp(disch:=omega)only[wk,tupled,↓reduceIte,reduceEqDiff,reduceEq,reduceAdd,reduceCtorEq,ea,mp,pd]
def fileT (n:Int):Tv:=⟨n,1,1,.sl 1 0 [] .e,0,[],.sl 3 0 [] .e⟩
theorem fileT_ok (n:Int):(fileT n).ok:=Tv.cp_ok (t:=fileT n) (by simp[fileT])
structure RootT (rt:Tv):Prop where
 n:rt.n=1
 k:rt.k=2
 l:rt.l=1
 p:rt.p=1
 ok:rt.ok
 un:un rt=rt
 nz:rt.nm≠[]->∀s n cs,rt.nv≠ .sl s n cs .z
theorem cp_nz (t:Tv):t.cp.nm≠[]->∀s n cs,t.cp.nv≠ .sl s n cs .z:=fun h s n cs e=>by
 have e:rowE 3 nmC t.nm=_:=e
 unfold rowE at e
 rw[if_neg (by exact h)]at e
 cases e
def mkT (rt:Tv) (ns:List Int):List Tv:=rt::ns.map fileT
theorem RootT.cp {rt:Tv} (h:RootT rt):RootT rt.cp:=⟨h.n,h.k,h.l,h.p,Tv.cp_ok h.ok.few,un_cp _,cp_nz _⟩
theorem mkT_ok {rt:Tv} (h:RootT rt) (ns:List Int):okT (mkT rt ns):=fun t ht=>by
 rcases List.mem_cons.1 ht with rfl|ht
 . exact h.ok
 . obtain⟨n,_,rfl⟩:=List.mem_map.1 ht
   exact fileT_ok n
theorem mkT_un {rt:Tv} (h:RootT rt) (ns:List Int):(mkT rt ns).map un=mkT rt ns:=by
 unfold mkT
 rw[List.map_cons,h.un,List.map_map]
 rfl
structure JV (f:Frm) (nm:List Nm) (ns:List Int):Prop where
 sort:ns.Pairwise (· < ·)
 rng:∀n∈ns,2<=n/\n<=f.i
 i30:∀y∈nm,y.i<30
 idx:(nm.map (·.i)).Nodup
 key:nm.Pairwise fun a b=>a.k<b.k
 sum:∀y∈nm,0<=y.k/\y.k<1208925819614629174706175/\y.k/65536=((sumP y.i f.t.toNat:Nat):Int)
 perm:(nm.map (·.n)).Perm ns
 few:nm.length<=30
 rcd:(nm.length:Int)<=f.r
theorem JV.nil (f:Frm) (h:okF f):JV f [] []:=⟨.nil,by simp,by simp,by simp,.nil,by simp,by simp,by simp,by have:=h.2.2.2.2.2.1;simp;omega⟩
theorem keyM_none:∀(l:List Nm) (k:Int),(∀y∈l,k<y.k)->keyM k l=k
 |[],_,_=>rfl
 | x::r,k,h=>by
   have hx:=h x (List.mem_cons_self ..)
   rw[keyM,if_neg (by omega)]
   exact keyM_none r k fun y hy=>h y (List.mem_cons_of_mem _ hy)
theorem keyM_ne:∀(l:List Nm) (k:Int),l.Pairwise (fun a b=>a.k<b.k)->∀y∈l,y.k≠keyM k l
 |[],_,_,_,h=>by cases h
 | x::r,k,hp,y,hy=>by
   obtain⟨h1,h2⟩:=List.pairwise_cons.1 hp
   rw[keyM]
   by_cases h:x.k=k
   . rw[if_pos h]
     rcases List.mem_cons.1 hy with rfl|hy
     . have:=(keyM_le r (k+1)).1;omega
     . exact keyM_ne r _ h2 y hy
   . rw[if_neg h]
     rcases List.mem_cons.1 hy with rfl|hy
     . by_cases hl:y.k<k
       . have:=(keyM_le r k).1;omega
       . rw[keyM_none r k fun z hz=>by have:=h1 z hz;omega];exact h
     . exact keyM_ne r _ h2 y hy
theorem insN_mem {x y:Nm}:∀{l:List Nm},y∈insN x l↔y=x∨y∈l
 |[]=>by simp[insN]
 | z::r=>by
   rw[insN]
   split
   . simp
   . rw[List.mem_cons,insN_mem (l:=r),List.mem_cons]
     constructor
     . rintro (h|h|h)<;>simp[h]
     . rintro (h|h|h)<;>simp[h]
theorem insN_perm (x:Nm):∀l:List Nm,(insN x l).Perm (x::l)
 |[]=> .refl _
 | z::r=>by
   rw[insN]
   split
   . exact .refl _
   . exact((insN_perm x r).cons z).trans (.swap ..)
theorem insN_key {x:Nm}:∀{l:List Nm},l.Pairwise (fun a b=>a.k<b.k)->(∀y∈l,y.k≠x.k)->(insN x l).Pairwise fun a b=>a.k<b.k
 |[],_,_=>by simp[insN]
 | z::r,hp,hn=>by
   obtain⟨h1,h2⟩:=List.pairwise_cons.1 hp
   rw[insN]
   split
   . rename_i hl
     refine List.pairwise_cons.2 ⟨fun y hy=> ?_,hp⟩
     rcases List.mem_cons.1 hy with rfl|hy
     . exact hl
     . have:=h1 y hy;omega
   . rename_i hl
     have:=hn z (List.mem_cons_self ..)
     refine List.pairwise_cons.2 ⟨fun y hy=> ?_,insN_key h2 fun y hy=>hn y (List.mem_cons_of_mem _ hy)⟩
     rcases insN_mem.1 hy with rfl|hy
     . omega
     . exact h1 y hy
theorem askM_none {l:List Nm} {i:Nat}:askM l i=none↔∀y∈l,y.i≠i:=by
 induction l with
 |nil=>simp[askM]
 | cons x r ih=>
   rw[askM]
   by_cases h:x.i=i
   . simp[h]
   . simp[h,ih]
theorem askM_some {l:List Nm} {i:Nat} {n:Int} (h:askM l i=some n):∃y∈l,y.i=i/\y.n=n:=by
 induction l with
 |nil=>cases h
 | cons x r ih=>
   rw[askM]at h
   split at h
   . rename_i hx
     cases h
     exact⟨x,List.mem_cons_self ..,hx,rfl⟩
   . obtain⟨y,hy,h2⟩:=ih h
     exact⟨y,List.mem_cons_of_mem _ hy,h2⟩
theorem findM_file (rt:Tv) (h1:rt.n=1) (ns:List Int) (hs:ns.Pairwise (· < ·)) {n:Int} (hn:n∈ns) (h2:∀n∈ns,2<=n):∃pre post,ns=pre++n::post/\mkT rt ns=(rt::pre.map fileT)++fileT n::post.map fileT/\findM (mkT rt ns) n 0=(((rt::pre.map fileT).length:Nat):Int):=by
 obtain⟨pre,post,rfl⟩:=List.append_of_mem hn
 refine⟨pre,post,rfl,by simp[mkT], ?_⟩
 have hne:∀p∈pre,p≠n:=fun p hp=>by
   have:=(List.pairwise_append.1 hs).2.2 p hp n (List.mem_cons_self ..)
   omega
 have hr:rt.n≠n:=by have:=h2 n hn;omega
 have key:∀(A:List Tv) (t:Tv) (B:List Tv) (k:Nat),(∀a∈A,a.n≠n)->t.n=n->findM (A++t::B) n k=((k+A.length:Nat):Int):=by
   intro A t B
   induction A with
   |nil=>intro k _ ht;rw[List.nil_append,findM,if_pos ht];simp
   | cons a A ih=>
     intro k hA ht
     rw[List.cons_append,findM,if_neg (hA a (List.mem_cons_self ..))]
     have:=ih (k+1) (fun b hb=>hA b (List.mem_cons_of_mem _ hb)) ht
     rw[show((k:Int)+1)=((k+1:Nat):Int)by omega,this,List.length_cons]
     omega
 rw[show mkT rt (pre++n::post)=(rt::pre.map fileT)++fileT n::post.map fileT by simp[mkT]]
 have:=key (rt::pre.map fileT) (fileT n) (post.map fileT) 0 (fun a ha=>by
   rcases List.mem_cons.1 ha with rfl|ha
   . exact hr
   . obtain⟨p,hp,rfl⟩:=List.mem_map.1 ha
     exact hne p hp) rfl
 simpa using this
theorem JV.ref1 {f:Frm} {rt:Tv} (h:RootT rt) {ns:List Int} (j:JV f rt.nm ns):Ref1 (mkT rt ns) rt (ns.map fileT):=by
 refine⟨rfl,h.n,j.i30,fun y hy=> ?_⟩
 have hm:y.n∈ns:=j.perm.mem_iff.1 (List.mem_map.2 ⟨y,hy,rfl⟩)
 obtain⟨pre,post,h1,h2,h3⟩:=findM_file rt h.n ns j.sort hm fun n hn=>(j.rng n hn).1
 exact⟨_,_,_,h2,h3,rfl,rfl⟩
theorem JV.len {f:Frm} {nm:List Nm} {ns:List Int} (j:JV f nm ns):ns.length=nm.length:=by have:=j.perm.length_eq;simpa using this.symm
theorem namesM_mk (rt:Tv) (ns:List Int):namesM (mkT rt ns)=rt.nm.length:=by
 have:namesM (ns.map fileT)=0:=by
   induction ns with
   |nil=>rfl
   |cons n r ih=>rw[List.map_cons,namesM_cons,ih];rfl
 unfold mkT
 rw[namesM_cons,this];omega
theorem freeM_ok (T:List Tv):∀(k:Nat) (n:Int),1<=n->freeM T k n=0∨(n<=freeM T k n/\freeM T k n<n+k/\∀t∈T,t.n≠freeM T k n)
 |0,n,_=> .inl rfl
 | k+1,n,h=>by
   rw[freeM]
   split
   . rename_i hf
     right
     refine⟨Int.le_refl _,by omega, ?_⟩
     rcases findM_nat T n 0 with⟨_,h2⟩|⟨pre,t,suf,_,_,h3⟩
     . exact h2
     . have h3:findM T n 0=((0+pre.length:Nat):Int):=h3
       rw[h3]at hf
       omega
   . rcases freeM_ok T k (n+1) (by omega)with h1|⟨h1,h2,h3⟩
     . exact .inl h1
     . exact .inr ⟨by omega,by omega,h3⟩
theorem restM_id {L:List Tv} {x:Tv} (h:∀t∈L,t.n≠x.n):restM L x=L:=List.filter_eq_self.2 fun t ht=>by simpa using h t ht
theorem insM_new (x:Tv):∀ns:List Int,ns.Pairwise (· < ·)->x.n∉ns->∃pre post,ns=pre++post/\(∀p∈pre,p<x.n)/\(∀p∈post,x.n<p)/\insM x (ns.map fileT)=pre.map fileT++x::post.map fileT
 |[],_,_=>⟨[],[],rfl,by simp,by simp,rfl⟩
 | n::r,hs,hn=>by
   obtain⟨h1,h2⟩:=List.pairwise_cons.1 hs
   rw[List.map_cons,insM]
   by_cases h:x.n<=(fileT n).n
   . have hle:x.n<=n:=h
     have hx:x.n<n:=by
       have:x.n≠n:=fun e=>hn (by rw[e];exact List.mem_cons_self ..)
       omega
     refine⟨[],n::r,rfl,by simp,fun p hp=> ?_, ?_⟩
     . rcases List.mem_cons.1 hp with rfl|hp
       . exact hx
       . have:=h1 p hp;omega
     . rw[if_pos h,restM_id];rfl
       intro t ht
       rw[<-List.map_cons]at ht
       obtain⟨p,hp,rfl⟩:=List.mem_map.1 ht
       intro e
       exact hn (by rw[<-e];exact hp)
   . rw[if_neg h]
     obtain⟨pre,post,e,q1,q2,q3⟩:=insM_new x r h2 fun hm=>hn (List.mem_cons_of_mem _ hm)
     refine⟨n::pre,post,by rw[e];rfl,fun p hp=> ?_,q2,by rw[q3];rfl⟩
     rcases List.mem_cons.1 hp with rfl|hp
     . have h:¬x.n<=p:=h;omega
     . exact q1 p hp
theorem insM_skip {x:Tv}:∀{A B:List Tv},(∀a∈A,a.n<x.n)->insM x (A++B)=A++insM x B
 |[],_,_=>rfl
 | a::A,B,h=>by
   have:=h a (List.mem_cons_self ..)
   rw[List.cons_append,insM,if_neg (by omega),insM_skip fun b hb=>h b (List.mem_cons_of_mem _ hb)];rfl
theorem insM_put {x t:Tv} {B:List Tv} (h:t.n=x.n) (hB:∀b∈B,b.n≠x.n):insM x (t::B)=x::B:=by
 rw[insM,if_pos (by omega),restM_cons,if_pos h,restM_id hB]
theorem map_cp_file (l:List Int):(l.map fileT).map Tv.cp=l.map fileT:=by rw[List.map_map];rfl
theorem cp_cp (t:Tv):t.cp.cp=t.cp:=rfl
theorem with_root {rt r2:Tv} (h:rt.n=1) (h2:r2.n=1) {L:List Tv} (hL:∀t∈L,2<=t.n):withM (rt::L) r2=r2.cp::L.map Tv.cp:=by
 unfold withM
 rw[insM_put (by rw[h,h2]) fun b hb=>by have:=hL b hb;omega];rfl
theorem made_ok {f:Frm} (hf:okF f) {rt:Tv} (h:RootT rt) {ns:List Int} (j:JV f rt.nm ns) {c:Nat} (hc:c<30) (hlt:∀y∈rt.nm,y.i<c) (hcl:rt.nm.length<=c):
   ∃R e n r2 ns2,Made f (mkT rt ns) rt c R e n/\R=mkT r2 ns2/\RootT r2/\JV f r2.nm ns2/\(∀y∈r2.nm,y.i<c+1)/\r2.nm.length<=c+1:=by
 have hA:askM rt.nm c=none:=askM_none.2 fun y hy=>by have:=hlt y hy;omega
 by_cases hF:freeM (mkT rt ns) f.i.toNat 1=0
 . exact⟨mkT rt ns,285,0,rt,ns,⟨fun _=>⟨rfl,rfl,by rw[if_neg (fun h=>h hA),if_pos hF]⟩,fun _ h2 _=>absurd hF h2⟩,rfl,h,j,fun y hy=>by have:=hlt y hy;omega,by omega⟩
 by_cases hN:f.r<=namesM (mkT rt ns)
 . exact⟨mkT rt ns,286,0,rt,ns,⟨fun _=>⟨rfl,rfl,by rw[if_neg (fun h=>h hA),if_neg hF]⟩,fun _ _ h3=>absurd h3 (by omega)⟩,rfl,h,j,fun y hy=>by have:=hlt y hy;omega,by omega⟩
 rcases freeM_ok (mkT rt ns) f.i.toNat 1 (by omega)with h0|⟨g1,g2,g3⟩
 . exact absurd h0 hF
 have hfi:=hf.2.2.1
 obtain⟨n,hn⟩:∃n,n=freeM (mkT rt ns) f.i.toNat 1:=⟨_,rfl⟩
 rw[<-hn]at g1 g2 g3
 have n2:2<=n:=by have:=g3 rt (List.mem_cons_self ..);rw[h.n]at this;omega
 have nns:n∉ns:=fun hm=>g3 (fileT n) (List.mem_cons_of_mem _ (List.mem_map.2 ⟨n,hm,rfl⟩)) rfl
 obtain⟨pre,post,en,q1,q2,q3⟩:=insM_new (newF n) ns j.sort nns
 have q1:∀p∈pre,p<n:=q1
 have q2:∀p∈post,n<p:=q2
 have w0:withM (mkT rt ns) (newF n)=rt.cp::(pre.map fileT++(newF n).cp::post.map fileT):=by
   unfold withM mkT
   rw[insM,if_neg (by rw[h.n];show¬n<=1;omega),q3]
   simp only[List.map_cons,List.map_append,map_cp_file]
 have L2:∀t∈pre.map fileT++(newF n).cp::post.map fileT,2<=t.n:=fun t ht=>by
   rcases List.mem_append.1 ht with ht|ht
   . obtain⟨p,hp,rfl⟩:=List.mem_map.1 ht
     exact(j.rng p (by rw[en];simp[hp])).1
   . rcases List.mem_cons.1 ht with rfl|ht
     . exact n2
     . obtain⟨p,hp,rfl⟩:=List.mem_map.1 ht
       exact(j.rng p (by rw[en];simp[hp])).1
 obtain⟨r2,hr2⟩:∃r2,r2=(addN f.t.toNat rt.cp c n).cp:=⟨_,rfl⟩
 have w1:withM (withM (mkT rt ns) (newF n)) (addN f.t.toNat rt.cp c n)=(r2::pre.map fileT)++(newF n).cp::post.map fileT:=by
   rw[w0,with_root (by exact h.n) (by exact h.n) L2,<-hr2]
   simp only[List.map_cons,List.map_append,map_cp_file,cp_cp,List.cons_append]
 have r2n:r2.n=1:=by rw[hr2];exact h.n
 have r2nm:r2.nm=insN ⟨keyM (65536*((sumP c f.t.toNat:Nat):Int)) rt.nm,c,n⟩ rt.nm:=by rw[hr2];rfl
 have r2len:r2.nm.length=rt.nm.length+1:=by rw[r2nm,insN_len]
 have rr2:RootT r2:=by
   refine⟨r2n,by rw[hr2];exact h.k,by rw[hr2];exact h.l,by rw[hr2];exact h.p, ?_,by rw[hr2];exact un_cp _,by rw[hr2];exact cp_nz _⟩
   rw[hr2]
   exact Tv.cp_ok (t:=addN f.t.toNat rt.cp c n) (by show(insN _ rt.nm).length<=1000;rw[insN_len];have:=j.few;omega)
 have w2:withM ((r2::pre.map fileT)++(newF n).cp::post.map fileT) {(newF n).cp with l:=(newF n).cp.l+1}=mkT r2 (pre++n::post):=by
   unfold withM
   rw[insM_skip,insM_put (x:={(newF n).cp with l:=(newF n).cp.l+1}) (t:=(newF n).cp) (B:=post.map fileT) rfl]
   . have:r2.cp=r2:=by rw[hr2];rfl
     unfold mkT
     simp only[List.map_cons,List.map_append,map_cp_file,this,List.cons_append]
     rfl
   . intro b hb
     obtain⟨p,hp,rfl⟩:=List.mem_map.1 hb
     have:=q2 p hp
     show p≠n
     omega
   . intro a ha
     rcases List.mem_cons.1 ha with rfl|ha
     . rw[r2n];show(1:Int)<n;omega
     . obtain⟨p,hp,rfl⟩:=List.mem_map.1 ha
       exact q1 p hp
 have fnd:findM ((r2::pre.map fileT)++(newF n).cp::post.map fileT) n 0=(((r2::pre.map fileT).length:Nat):Int):=by
   rcases findM_nat ((r2::pre.map fileT)++(newF n).cp::post.map fileT) n 0 with⟨_,h2⟩|⟨A,t,B,e1,e2,e3⟩
   . exact absurd rfl (h2 (newF n).cp (by simp))
   . have e3:findM ((r2::pre.map fileT)++(newF n).cp::post.map fileT) n 0=((0+A.length:Nat):Int):=e3
     rw[e3]
     have:A.length=(r2::pre.map fileT).length:=by
       have hA1:∀a∈r2::pre.map fileT,a.n≠n:=fun a ha=>by
         rcases List.mem_cons.1 ha with rfl|ha
         . rw[r2n];omega
         . obtain⟨p,hp,rfl⟩:=List.mem_map.1 ha
           have:=q1 p hp
           show p≠n
           omega
       rcases List.append_eq_append_iff.1 e1 with⟨C,c1,c2⟩|⟨C,c1,c2⟩
       . cases C with
         |nil=>rw[c1];simp
         | cons u C=>
           rw[List.cons_append]at c2
           obtain⟨rfl,c3⟩:=List.cons.inj c2
           have:t∈post.map fileT:=by rw[c3];simp
           obtain⟨p,hp,rfl⟩:=List.mem_map.1 this
           have:=q2 p hp
           have e2:p=n:=e2
           omega
       . cases C with
         |nil=>rw[List.append_nil]at c1;rw[c1]
         | cons u C=>
           rw[List.cons_append]at c2
           obtain⟨rfl,c3⟩:=List.cons.inj c2
           exact absurd e2 (hA1 t (by rw[c1];simp))
     rw[this];simp
 have kl:=keyM_le rt.nm (65536*((sumP c f.t.toNat:Nat):Int))
 have sl:=sumP_lt c (b:=f.t.toNat) (by have:=hf.2.2.2.2.2.2.2.2.2.1;omega)
 have few:=j.few
 refine⟨mkT r2 (pre++n::post),0,n,r2,pre++n::post,⟨fun hh=> ?_,fun _ _ _=>⟨hn,rfl,rt.cp,_,_,_,(newF n).cp,_,w0,h.n,by show rt.nm.length<=900;omega,w1.symm,rfl,fnd,by show(0:Int)<=0;omega,by show(0:Int)<=1000;omega,w2.symm⟩⟩,rfl,rr2, ?_, ?_,by omega⟩
 . rcases hh with hh|hh|hh
   . exact absurd hA hh
   . exact absurd hh hF
   . exact absurd hh hN
 . rw[r2nm]
   rw[namesM_mk]at hN
   refine⟨?_, ?_, ?_, ?_,insN_key j.key fun y hy=>keyM_ne _ _ j.key y hy, ?_, ?_,by rw[insN_len];omega,by rw[insN_len];omega⟩
   . rw[en]at j
     obtain⟨s1,s2,s3⟩:=List.pairwise_append.1 j.sort
     refine List.pairwise_append.2 ⟨s1,List.pairwise_cons.2 ⟨q2,s2⟩,fun a ha b hb=> ?_⟩
     rcases List.mem_cons.1 hb with rfl|hb
     . exact q1 a ha
     . exact s3 a ha b hb
   . intro p hp
     rcases List.mem_append.1 hp with hp|hp
     . exact j.rng p (by rw[en];simp[hp])
     . rcases List.mem_cons.1 hp with rfl|hp
       . exact⟨n2,by omega⟩
       . exact j.rng p (by rw[en];simp[hp])
   . intro y hy
     rcases insN_mem.1 hy with rfl|hy
     . exact hc
     . exact j.i30 y hy
   . refine((insN_perm _ rt.nm).map (·.i)).nodup_iff.2 ?_
     rw[List.map_cons,List.nodup_cons]
     refine⟨fun hm=> ?_,j.idx⟩
     obtain⟨y,hy,e⟩:=List.mem_map.1 hm
     have:=hlt y hy
     have e:y.i=c:=e
     omega
   . intro y hy
     rcases insN_mem.1 hy with rfl|hy
     . exact⟨by dsimp only;omega,by dsimp only;omega,by dsimp only;omega⟩
     . exact j.sum y hy
   . refine((insN_perm _ rt.nm).map (·.n)).trans ?_
     rw[List.map_cons]
     refine(j.perm.cons n).trans ?_
     rw[en]
     exact List.perm_middle.symm
 . intro y hy
   rw[r2nm]at hy
   rcases insN_mem.1 hy with rfl|hy
   . show c<c+1;omega
   . have:=hlt y hy;omega
theorem whoN_no:∀(l:List Nm) (i:Nat) (a:Int),(∀y∈l,y.i≠i)->whoN l i a=a
 |[],_,_,_=>rfl
 | x::r,i,a,h=>by
   show whoN r i (if x.i=i then x.n else a)=a
   rw[if_neg (h x (List.mem_cons_self ..))]
   exact whoN_no r i a fun y hy=>h y (List.mem_cons_of_mem _ hy)
theorem whoN_is:∀(l:List Nm) (i:Nat) (a:Int),(l.map (·.i)).Nodup->∀y∈l,y.i=i->whoN l i a=y.n/\l.Perm (y::delN l i)
 |[],_,_,_,_,h,_=>by cases h
 | x::r,i,a,hd,y,hy,e=>by
   rw[List.map_cons,List.nodup_cons]at hd
   have hs:whoN (x::r) i a=whoN r i (if x.i=i then x.n else a):=rfl
   rw[hs,delN_cons]
   by_cases hx:x.i=i
   . have hr:∀z∈r,z.i≠i:=fun z hz e2=>hd.1 (List.mem_map.2 ⟨z,hz,by rw[e2,hx]⟩)
     rcases List.mem_cons.1 hy with rfl|hy
     . rw[if_pos hx,if_pos hx,whoN_no r i _ hr]
       have:delN r i=r:=List.filter_eq_self.2 fun z hz=>by simpa using hr z hz
       rw[this]
       exact⟨rfl,.refl _⟩
     . exact absurd e (hr y hy)
   . rw[if_neg hx,if_neg hx]
     rcases List.mem_cons.1 hy with rfl|hy
     . exact absurd e hx
     . obtain⟨h1,h2⟩:=whoN_is r i a hd.2 y hy e
       exact⟨h1,(h2.cons x).trans (.swap ..)⟩
theorem gone_ok {f:Frm} {rt:Tv} (h:RootT rt) {ns:List Int} (j:JV f rt.nm ns) (i:Nat):
   ∃R e r2 ns2,Gone f (mkT rt ns) rt i R e/\R=mkT r2 ns2/\RootT r2/\JV f r2.nm ns2:=by
 cases hA:askM rt.nm i with
 |none=>exact⟨mkT rt ns,270,rt,ns,⟨fun _=>⟨rfl,rfl⟩,fun h=>absurd hA h⟩,rfl,h,j⟩
 | some m=>
   obtain⟨y,hy,yi,yn⟩:=askM_some hA
   obtain⟨w1,w2⟩:=whoN_is rt.nm i 0 j.idx y hy yi
   obtain⟨r2,hr2⟩:∃r2,r2=({rt with nm:=delN rt.nm i,nv:=slvR 3 nmC (delN rt.nm i)}:Tv).cp:=⟨_,rfl⟩
   have r2nm:r2.nm=delN rt.nm i:=by rw[hr2];rfl
   have ldl:(delN rt.nm i).length<=rt.nm.length:=List.length_filter_le _ _
   have few:=j.few
   have rr2:RootT r2:=⟨by rw[hr2];exact h.n,by rw[hr2];exact h.k,by rw[hr2];exact h.l,by rw[hr2];exact h.p,by rw[hr2];exact Tv.cp_ok (by dsimp only;omega),by rw[hr2];exact un_cp _,by rw[hr2];exact cp_nz _⟩
   have mns:y.n∈ns:=j.perm.mem_iff.1 (List.mem_map.2 ⟨y,hy,rfl⟩)
   have e1:withM (mkT rt ns) {rt with nm:=delN rt.nm i,nv:=slvR 3 nmC (delN rt.nm i)}=mkT r2 ns:=by
     unfold mkT
     rw[with_root h.n (by exact h.n),map_cp_file,<-hr2]
     intro t ht
     obtain⟨p,hp,rfl⟩:=List.mem_map.1 ht
     exact(j.rng p hp).1
   obtain⟨pre,post,q1,q2,q3⟩:=findM_file r2 rr2.n ns j.sort mns fun n hn=>(j.rng n hn).1
   have sub:(pre++post).Sublist ns:=by rw[q1];exact(List.Sublist.refl pre).append (List.sublist_cons_self ..)
   have fsub:(delN rt.nm i).Sublist rt.nm:=List.filter_sublist
   refine⟨mkT r2 (pre++post),0,r2,pre++post,⟨fun h=>absurd (h.symm.trans hA) (by simp),fun _=>⟨rfl,mkT r2 ns,r2::pre.map fileT,fileT y.n,post.map fileT,e1.symm,q2,by simp,by rw[w1];exact q3,rfl, ?_⟩⟩,rfl,rr2, ?_⟩
   . have:r2.cp=r2:=by rw[hr2];rfl
     unfold mkT
     simp only[List.map_append,List.map_cons,map_cp_file,this,List.cons_append]
   . rw[r2nm]
     refine⟨j.sort.sublist sub,fun n hn=>j.rng n (sub.subset hn),fun z hz=>j.i30 z (fsub.subset hz),j.idx.sublist (fsub.map _),j.key.sublist fsub,fun z hz=>j.sum z (fsub.subset hz), ?_,by omega,by have:=j.rcd;omega⟩
     have p1:(rt.nm.map (·.n)).Perm (y.n::(delN rt.nm i).map (·.n)):=w2.map (·.n)
     have p2:ns.Perm (y.n::(pre++post)):=by rw[q1];exact List.perm_middle
     exact(p1.symm.trans (j.perm.trans p2)).cons_inv
def rootZ:Tv:=⟨1,2,1,.sl 0 0 [] .z,1,[],.sl 0 0 [] .z⟩
theorem rootZ_ok:RootT rootZ:=⟨rfl,rfl,rfl,rfl,⟨⟨0,.z,rfl,fun h=>absurd rfl h,rfl⟩,⟨0,.z,rfl,fun h=>absurd rfl h,rfl⟩,by simp[rootZ]⟩,rfl,by simp[rootZ]⟩
theorem newS_px (f:Frm) (H:Heap):pcx (cbL tab) 33 [.agg (layA f 5 6)] H=some (.plain (.agg (stC f (mkT rootZ []) .ro))):=by
 refine pcx_N rfl (pc_wp6 (fi:=c33) rfl rfl (by simp[c33]) (by decide) ?_)
 unfold c33
 rw[List.map_cons,List.map_nil,show lend (.agg (layA f 5 6))= .agg (layA f 5 6)from rfl]
 have pd:=pd_st f (T:=mkT rootZ []) (mkT_ok rootZ_ok []) rfl
 have es:stC f (mkT rootZ []) .ro=[.int .i64 f.b,.int .i64 f.i,.int .i64 f.r,.int .i64 f.t,.int .u64 5,.int .u64 6,.int .i64 9,.int .i64 (9+f.i/4),.int .i64 (9+f.i/4+f.r/4),.int .i64 (9+f.i/4+f.r/4+1),.sl 7 1 [.int .i64 1,.int .i64 2,.int .i64 1,.sl 0 0 [] .z,.int .i64 1,.sl 0 0 [] .z,.str (ByteArray.mk (Array.mk []))] .ro]:=rfl
 rw[es]at pd ⊢
 unfold layA frmA
 simp only[List.cons_append,List.nil_append]
 simp(disch:=omega)only[wk,tupled,↓reduceIte,reduceEqDiff,reduceEq,reduceAdd,reduceCtorEq,pd]
theorem pc_wp6E {tab:FuncId->Option AFun} {f:FuncId} {fi:AFun} {args:List AV} {R:PR->Prop} (ht:tab f=some fi) (hon:pcOn fi args=true) (hl:args.length<=fi.np) (hf:fi.body.fits fi.np=true)
   (h:Ret (cbL tab) none fi.np (Go.Am.Ends tab fi.res fun o H=>∃r,purD (some (o,H))=some r/\R r) [.code fi.body] .normal (argE (args.map lend)) [] []) (hcon:fi.con=none:=by rfl) (hm:fi.mode=6:=by rfl):∃r,(cbL tab).pc f args=some r/\R r:=by
 rw[<-EV_fr0 fi.np]at h
 obtain⟨o,H',h1,r,h2,h3⟩:=body_wp (by rw[List.length_map];exact hl) hf h
 refine⟨r, ?_,h3⟩
 apply pc_of
 rw[pcA,ht]
 simp only[hcon]
 simp only[hon,if_true]
 rw[h1,outM_6 hm,h2]
def i64A (j:Int):List AV:=[.int .i64 j]
instance : Even i64A 1 := ⟨fun _ => rfl⟩
def IntR (l:List Int) (v:AV):Prop:=∃s tk,v= .sl s l.length (encs i64A l) tk/\(l≠[]->s=1)/\tk.hf=true
theorem IntR.hf {l:List Int} {v:AV} (h:IntR l v):v.hf=true:=by
 obtain⟨s,tk,rfl,_,ht⟩:=h
 simp[AV.hf,hfL_encs (f:=i64A) (fun _=>rfl) l,ht]
theorem IntR.un {l:List Int} {v:AV} (h:IntR l v):unown v=v:=by
 obtain⟨s,tk,rfl,_,ht⟩:=h
 cases tk<;>first|rfl|cases ht
theorem IntR.one {l:List Int} {v:AV} (h:IntR l v):v.one=true:=by
 obtain⟨s,tk,rfl,_,ht⟩:=h;rfl
def useA (f:Frm) (bv rv fv:AV):AV:= .agg [.int .i64 f.b,.int .i64 f.i,.int .i64 f.r,.int .i64 f.t,bv,rv,fv]
def imgC (f:Frm) (T:List Tv) (bv rv:AV):List AV:=[.int .i64 f.b,.int .i64 f.i,.int .i64 f.r,.int .i64 f.t,.int .u64 5,.int .u64 6,.int .i64 9,.int .i64 (9+f.i/4),.int .i64 (9+f.i/4+f.r/4),.int .i64 (9+f.i/4+f.r/4+1),.sl 7 T.length (encs tvC T) .ro,bv,rv]
def okU (f:Frm) (bl rl fl:List Int):Prop:=okF f/\f.b<=64/\bl.length<=80/\rl.length<=80/\fl.length<=30
def z13:List AV:=[.int .i64 0,.int .i64 0,.int .i64 0,.int .i64 0,.int .u64 0,.int .u64 0,.int .i64 0,.int .i64 0,.int .i64 0,.int .i64 0,.sl 0 0 [] .z,.sl 0 0 [] .z,.sl 0 0 [] .z]
structure MadeP (f:Frm) (bl rl fl:List Int) (bv rv:AV) (r:PR):Prop where
 no:¬okU f bl rl fl->r= .plain (.tup [.agg z13,.bool false])
 yes:okU f bl rl fl->∃rt ns,RootT rt/\JV f rt.nm ns/\r= .plain (.tup [.agg (imgC f (mkT rt ns) bv rv),.bool true])
theorem img_pic {f:Frm} {T:List Tv} (hT:okT T) (hu:T.map un=T) {bl rl:List Int} {bv rv:AV} (hb:IntR bl bv) (hr:IntR rl rv) (H:Heap):purD (some (.ret (.tup [.agg (imgC f T bv rv),.bool true]),H))=some (.plain (.tup [.agg (imgC f T bv rv),.bool true])):=by
 have hk:∀{l:List Int} {v:AV},IntR l v->deep1 (lendK H 3 v)=v:=by
   rintro l v ⟨s,tk,rfl,_,ht⟩
   have e:∀l:List Int,(encs i64A l).map unown=encs i64A l:=by
     intro l
     induction l with
     |nil=>rfl
     |cons x l ih=>rw[encs_cons,List.map_append,ih];rfl
   have e:=e l
   show unown (.sl s l.length ((encs i64A l).map unown) tk)=_
   rw[e]
   cases tk<;>first|rfl|cases ht
 have e1:picV H (.tup [.agg (imgC f T bv rv),.bool true])= .tup [.agg (imgC f T bv rv),.bool true]:=by
   have e:(AV.sl 7 T.length ((encs tvC T).map unown) .ro)= .sl 7 T.length (encs tvC T) .ro:=by rw[un_cells,hu]
   show AV.tup [.agg [_,_,_,_,_,_,_,_,_,_,.sl 7 T.length ((encs tvC T).map unown) .ro,deep1 (lendK H 3 bv),deep1 (lendK H 3 rv)],.bool true]=_
   rw[e,hk hb,hk hr];rfl
 simp only[purD,e1]
 rw[if_pos]
 have h1:=okT_hf hT
 have h2:=hb.hf
 have h3:=hr.hf
 simp[AV.hf,hfL,imgC,h1,h2,h3]
 rfl
theorem unb {c:Nat} (hc:c<30):(unbytes [AV.int .u8 ((97+c:Nat):Int)]).map (fun l=>AV.str ⟨l.toArray⟩)=some (.str (nmS c)):=rfl
theorem made_px {f:Frm} {bl rl fl:List Int} {bv rv fv:AV} (hb:IntR bl bv) (hr:IntR rl rv) (hfl:IntR fl fv):
   ∃r,(cbL tab).pc 8 [useA f bv rv fv]=some r/\MadeP f bl rl fl bv rv r:=by
 have lu:lend (useA f bv rv fv)=useA f bv rv fv:=by
   show AV.agg [_,_,_,_,unown bv,unown rv,unown fv]=_
   rw[hb.un,hr.un,hfl.un];rfl
 refine pc_wp6E (fi:=c8) rfl ?_ (by simp[c8]) (by decide) ?_
 . simp only[pcOn,List.map_cons,List.map_nil,lu,c8]
   simp only[useA,hfL,AV.hf,hb.hf,hr.hf,hfl.hf,Bool.and_self]
 unfold c8
 rw[List.map_cons,List.map_nil,lu]
 have ro:=fun H=>rof_px f 5 6 H
 have ob:=hb.one
 have orr:=hr.one
 have of:=hfl.one
 have hb':=hb
 have hr':=hr
 have hfl':=hfl
 obtain⟨sb,tb,rfl,_,tbf⟩:=hb
 obtain⟨sr,tr,rfl,_,trf⟩:=hr
 obtain⟨sf,tf,rfl,hsf,tff⟩:=hfl
 have pz:∀H,purD (some (.ret (.tup [.agg z13,.bool false]),H))=some (.plain (.tup [.agg z13,.bool false])):=fun H=>rfl
 by_cases c1:okF f
 case neg=>
   simp only[if_neg c1]at ro
   have fin:∀H,∃r,purD (some (.ret (.tup [.agg z13,.bool false]),H))=some r/\MadeP f bl rl fl (.sl sb bl.length (encs i64A bl) tb) (.sl sr rl.length (encs i64A rl) tr) r:=fun H=>⟨_,pz H,fun _=>rfl,fun h=>absurd h.1 c1⟩
   unfold z13 at fin
   unfold useA frmA lay0 at*
   simp(disch:=omega)only[wk,tupled,↓reduceIte,reduceEqDiff,reduceEq,reduceAdd,reduceCtorEq,ro,ob,orr,of,runG_un]
   exact fin _
 simp only[if_pos c1]at ro
 by_cases c2:okU f bl rl fl
 case neg=>
   have fin:∀H,∃r,purD (some (.ret (.tup [.agg z13,.bool false]),H))=some r/\MadeP f bl rl fl (.sl sb bl.length (encs i64A bl) tb) (.sl sr rl.length (encs i64A rl) tr) r:=fun H=>⟨_,pz H,fun _=>rfl,fun h=>absurd h c2⟩
   unfold z13 at fin
   unfold useA frmA layA at*
   simp only[frmA,List.cons_append,List.nil_append]at ro ⊢
   by_cases d1:(64:Int)<f.b
   . simp(disch:=omega)only[wk,tupled,↓reduceIte,reduceEqDiff,reduceEq,reduceAdd,reduceCtorEq,ro,ob,orr,of,d1,runG_un]
     exact fin _
   by_cases d2:(80:Int)<(bl.length:Int)
   . simp(disch:=omega)only[wk,tupled,↓reduceIte,reduceEqDiff,reduceEq,reduceAdd,reduceCtorEq,ro,ob,orr,of,d1,d2,runG_un]
     exact fin _
   by_cases d3:(80:Int)<(rl.length:Int)
   . simp(disch:=omega)only[wk,tupled,↓reduceIte,reduceEqDiff,reduceEq,reduceAdd,reduceCtorEq,ro,ob,orr,of,d1,d2,d3,runG_un]
     exact fin _
   by_cases d4:(30:Int)<(fl.length:Int)
   . simp(disch:=omega)only[wk,tupled,↓reduceIte,reduceEqDiff,reduceEq,reduceAdd,reduceCtorEq,ro,ob,orr,of,d1,d2,d3,d4,runG_un]
     exact fin _
   . exact absurd ⟨c1,by omega,by omega,by omega,by omega⟩ c2
 obtain⟨_,b64,b80,r80,f30⟩:=c2
 have es:∀T,stC f T .ro=[.int .i64 f.b,.int .i64 f.i,.int .i64 f.r,.int .i64 f.t,.int .u64 5,.int .u64 6,.int .i64 9,.int .i64 (9+f.i/4),.int .i64 (9+f.i/4+f.r/4),.int .i64 (9+f.i/4+f.r/4+1),.sl 7 T.length (encs tvC T) .ro]:=fun _=>rfl
 have nw:=fun H=>newS_px f H
 rw[es]at nw
 unfold layA at ro nw
 have eu:useA f (.sl sb bl.length (encs i64A bl) tb) (.sl sr rl.length (encs i64A rl) tr) (.sl sf fl.length (encs i64A fl) tf)= .agg [.int .i64 f.b,.int .i64 f.i,.int .i64 f.r,.int .i64 f.t,.sl sb bl.length (encs i64A bl) tb,.sl sr rl.length (encs i64A rl) tr,.sl sf fl.length (encs i64A fl) tf]:=rfl
 rw[eu]
 simp only[frmA,List.cons_append,List.nil_append]at ro nw
 have d1:¬(64:Int)<f.b:=by omega
 have d2:¬(80:Int)<(bl.length:Int):=by omega
 have d3:¬(80:Int)<(rl.length:Int):=by omega
 have d4:¬(30:Int)<(fl.length:Int):=by omega
 have c2:okU f bl rl fl:=⟨c1,b64,b80,r80,f30⟩
 simp(disch:=omega)only[wk,tupled,↓reduceIte,reduceEqDiff,reduceEq,reduceAdd,reduceCtorEq,ro,ob,orr,of,d1,d2,d3,d4,nw,runG_un]
 clear d1 d2 d3 lu eu ro nw pz tbf trf b80 r80
 generalize AV.sl sb bl.length (encs i64A bl) tb=bv at*
 generalize AV.sl sr rl.length (encs i64A rl) tr=rv at*
 refine loop_ind (fun(c:Nat) E df H=>c<=fl.length/\(∃rt ns,RootT rt/\JV f rt.nm ns/\(∀y∈rt.nm,y.i<c)/\rt.nm.length<=c/\H=[.cells [.int .i64 f.b,.int .i64 f.i,.int .i64 f.r,.int .i64 f.t,bv,rv,.sl sf fl.length (encs i64A fl) tf],.cells z13,.cells (layA f 5 6),.cells (stC f (mkT rt ns) .ro),.cells (layA f 5 6++[.sl 0 0 [] .z,bv,rv])])/\E 1= .ptr 0 0/\E 2= .ptr 1 0/\E 3= .bool false/\E 6= .ptr 3 0/\E 7= .ptr 4 0/\E 8= .int .i64 ((c:Nat):Int)/\df=[])
   (fun c=>fl.length-c) 0 (by decide) (.inl rfl) ⟨Nat.zero_le _,⟨rootZ,[],rootZ_ok,JV.nil f c1,by simp[rootZ],by simp[rootZ],rfl⟩,rfl,rfl,rfl,rfl,rfl,rfl,rfl⟩ ?_
 intro c E df H ih hP
 obtain⟨hc,⟨rt,ns,hrt,j,hlt,hcl,hH⟩,E1,E2,E3,E6,E7,E8,hdf⟩:=hP
 subst hdf hH
 rw[es]
 unfold layA frmA
 simp only[List.cons_append,List.nil_append]
 by_cases hcf:c<fl.length
 . have n1:(c:Int)<(fl.length:Int):=by omega
   obtain⟨R,e,n,r2,ns2,M,rfl,hr2,j2,hlt2,hcl2⟩:=made_ok c1 hrt j (c:=c) (by omega) hlt hcl
   have jl:=j.len
   have few:=j.few
   have dn:=fun H=>do_new c1 (mkT_ok hrt ns) (mkT_un hrt ns) (by simp[mkT];omega) (by rw[namesM_mk];omega) (JV.ref1 hrt j) (by omega) M (mkT_ok hr2 ns2) (mkT_un hr2 ns2) H
   unfold callC ansC at dn
   rw[es,es]at dn
   have w8:IntKind.u8.wrap (97+(c:Int))=((97+c:Nat):Int):=by
     rw[wrap_u8];omega
   have ub:=unb (c:=c) (by omega)
   have pa:∀{xo yo:X} {ek:EqK},binV .add ek xo yo (.str (ByteArray.mk (Array.mk [UInt8.ofNat 47]))) (.str (nmS c))=some (.str (ptS c)):=fun{xo yo ek}=>rfl
   simp(disch:=omega)only[wk,tupled,↓reduceIte,reduceEqDiff,reduceEq,reduceAdd,reduceCtorEq,E1,E2,E3,E6,E7,E8,n1,w8,ub,true_or,pa,dn]
   exact ih (c+1) _ _ _ (by omega) ⟨by omega,⟨r2,ns2,hr2,j2,hlt2,hcl2,by rw[es];rfl⟩,by simp only[en,↓reduceIte,reduceEqDiff,E1],by simp only[en,↓reduceIte,reduceEqDiff,E2],by simp only[en,↓reduceIte,reduceEqDiff,E3],by simp only[en,↓reduceIte,reduceEqDiff,E6],by simp only[en,↓reduceIte,reduceEqDiff,E7],by simp only[en,↓reduceIte,reduceEqDiff],rfl⟩
 obtain rfl:c=fl.length:=by omega
 have n1:¬(fl.length:Int)<(fl.length:Int):=by omega
 obtain⟨T0,hT0⟩:∃T0,T0=mkT rt ns:=⟨_,rfl⟩
 have jl:=j.len
 have few:=j.few
 have okT0:okT T0:=hT0▸mkT_ok hrt ns
 have lT0:T0.length=ns.length+1:=by rw[hT0];simp[mkT]
 have t7:List.take (T0.length*7) (encs tvC T0)=encs tvC T0:=List.take_of_length_le (by rw[len7];exact Nat.le_refl _)
 have ap:∀H,appV 7 96 (.sl 7 0 [] .e) (.sl 7 T0.length (encs tvC T0) .ro) H=some (.val (.sl 7 T0.length (encs tvC T0) (.own H.length)),H++[.tok 7]):=fun H=>by
   simp only[appV,t7,len7,oneT okT0]
   rw[if_pos ⟨by omega,by omega,by omega⟩,if_neg (by omega),if_pos ⟨trivial,Nat.le_refl _,trivial⟩]
   simp only[List.length_nil,Nat.zero_mul,and_self,if_true,Nat.zero_add,List.nil_append]
 have eT:T0=rt::ns.map fileT:=hT0
 have e5:List.drop 5 (encs tvC T0)=rt.nv:: .str (ByteArray.mk (Array.mk []))::encs tvC (ns.map fileT):=by rw[eT];rfl
 obtain⟨sn,tn,hnv,hsn,_⟩:=hrt.ok.n
 have hi30:=j.i30
 rw[<-hT0]
 simp(disch:=omega)only[wk,tupled,↓reduceIte,reduceEqDiff,reduceEq,reduceAdd,reduceCtorEq,E1,E2,E3,E6,E7,E8,n1,ap]
 refine loop_ind (fun(c:Nat) E df H=>c<=fl.length/\(∃rt2 ns2,RootT rt2/\JV f rt2.nm ns2/\H=[.cells [.int .i64 f.b,.int .i64 f.i,.int .i64 f.r,.int .i64 f.t,bv,rv,.sl sf fl.length (encs i64A fl) tf],.cells z13,.cells (layA f 5 6),.cells (stC f (mkT rt2 ns2) .ro),.cells (layA f 5 6++[.sl 0 0 [] .z,bv,rv]),.tok 7])/\E 1= .ptr 0 0/\E 2= .ptr 1 0/\E 3= .bool false/\E 6= .ptr 3 0/\E 7= .ptr 4 0/\E 9= .sl 7 T0.length (encs tvC T0) (.own 5)/\E 10= .int .i64 ((c:Nat):Int)/\df=[])
   (fun c=>fl.length-c) 0 (by decide) (.inl rfl) ⟨Nat.zero_le _,⟨rt,ns,hrt,j,by rw[<-hT0,es];rfl⟩,by simp only[en,↓reduceIte,reduceEqDiff,E1],by simp only[en,↓reduceIte,reduceEqDiff,E2],by simp only[en,↓reduceIte,reduceEqDiff,E3],by simp only[en,↓reduceIte,reduceEqDiff,E6],by simp only[en,↓reduceIte,reduceEqDiff,E7],by simp only[en,↓reduceIte,reduceEqDiff],by simp only[en,↓reduceIte,reduceEqDiff];rfl,rfl⟩ ?_
 clear ih E1 E2 E3 E6 E7 E8 n1 hc ap
 intro c E df H ih hP
 obtain⟨hc,⟨rt2,ns2,hrt2,j2,hH⟩,E1,E2,E3,E6,E7,E9,E10,hdf⟩:=hP
 subst hdf hH
 rw[es]
 unfold layA frmA
 simp only[List.cons_append,List.nil_append]
 by_cases hcf:c<fl.length
 case neg=>
   obtain rfl:c=fl.length:=by omega
   have n1:¬(fl.length:Int)<(fl.length:Int):=by omega
   have fin:∀H,∃r,purD (some (.ret (.tup [.agg (imgC f (mkT rt2 ns2) bv rv),.bool true]),H))=some r/\MadeP f bl rl fl bv rv r:=fun H=>⟨_,img_pic (mkT_ok hrt2 ns2) (mkT_un hrt2 ns2) hb' hr' H,fun h=>absurd c2 h,fun _=>⟨rt2,ns2,hrt2,j2,rfl⟩⟩
   unfold imgC at fin
   unfold z13
   simp(disch:=omega)only[wk,tupled,↓reduceIte,reduceEqDiff,reduceEq,reduceAdd,reduceCtorEq,E1,E2,E3,E6,E7,E9,E10,n1,ob,orr]
   exact fin _
 have n1:(c:Int)<(fl.length:Int):=by omega
 obtain⟨fp,x,fs,efl,hfp⟩:∃fp x fs,fl=fp++x::fs/\fp.length=c:=⟨fl.take c,fl[c],fl.drop (c+1),by simp,by simp;omega⟩
 obtain rfl:=hsf (by rw[efl];simp)
 have df:=drop_pre (f:=i64A) fp (x::fs)
 rw[hfp,encs_cons,Nat.mul_one,<-efl]at df
 have df:List.drop c (encs i64A fl)= .int .i64 x::encs i64A fs:=df
 have nxt:c+1<=fl.length:=hcf
 by_cases hx:0<x/\x<(T0.length:Int)
 case neg=>
   by_cases x0:0<=x
   case neg=>
     simp(disch:=omega)only[wk,tupled,↓reduceIte,reduceEqDiff,reduceEq,reduceAdd,reduceCtorEq,E1,E2,E3,E6,E7,E9,E10,n1,df,x0,runG_un]
     exact ih (c+1) _ _ _ (by omega) ⟨nxt,⟨rt2,ns2,hrt2,j2,by rw[es];rfl⟩,by simp only[en,↓reduceIte,reduceEqDiff,E1],by simp only[en,↓reduceIte,reduceEqDiff,E2],by simp only[en,↓reduceIte,reduceEqDiff,E3],by simp only[en,↓reduceIte,reduceEqDiff,E6],by simp only[en,↓reduceIte,reduceEqDiff,E7],by simp only[en,↓reduceIte,reduceEqDiff,E9],by simp only[en,↓reduceIte,reduceEqDiff],rfl⟩
   by_cases x1:x<(T0.length:Int)
   case neg=>
     simp(disch:=omega)only[wk,tupled,↓reduceIte,reduceEqDiff,reduceEq,reduceAdd,reduceCtorEq,E1,E2,E3,E6,E7,E9,E10,n1,df,x0,x1,runG_un]
     exact ih (c+1) _ _ _ (by omega) ⟨nxt,⟨rt2,ns2,hrt2,j2,by rw[es];rfl⟩,by simp only[en,↓reduceIte,reduceEqDiff,E1],by simp only[en,↓reduceIte,reduceEqDiff,E2],by simp only[en,↓reduceIte,reduceEqDiff,E3],by simp only[en,↓reduceIte,reduceEqDiff,E6],by simp only[en,↓reduceIte,reduceEqDiff,E7],by simp only[en,↓reduceIte,reduceEqDiff,E9],by simp only[en,↓reduceIte,reduceEqDiff],rfl⟩
   have x2:¬0<x:=fun h=>hx ⟨h,x1⟩
   simp(disch:=omega)only[wk,tupled,↓reduceIte,reduceEqDiff,reduceEq,reduceAdd,reduceCtorEq,E1,E2,E3,E6,E7,E9,E10,n1,df,x0,x1,x2,runG_un]
   exact ih (c+1) _ _ _ (by omega) ⟨nxt,⟨rt2,ns2,hrt2,j2,by rw[es];rfl⟩,by simp only[en,↓reduceIte,reduceEqDiff,E1],by simp only[en,↓reduceIte,reduceEqDiff,E2],by simp only[en,↓reduceIte,reduceEqDiff,E3],by simp only[en,↓reduceIte,reduceEqDiff,E6],by simp only[en,↓reduceIte,reduceEqDiff,E7],by simp only[en,↓reduceIte,reduceEqDiff,E9],by simp only[en,↓reduceIte,reduceEqDiff],rfl⟩
 obtain⟨x2,x1⟩:=hx
 have x0:0<=x:=by omega
 obtain⟨A,t,B,eA,hA⟩:∃A t B,T0=A++t::B/\A.length=x.toNat:=⟨T0.take x.toNat,T0[x.toNat]'(by omega),T0.drop (x.toNat+1),by simp,by simp;omega⟩
 have dt:=tv_drop A t B
 rw[<-eA,hA]at dt
 have tp:(0:Int)<(T0.length:Int):=by omega
 simp(disch:=omega)only[wk,tupled,↓reduceIte,reduceEqDiff,reduceEq,reduceAdd,reduceCtorEq,E1,E2,E3,E6,E7,E9,E10,n1,df,x0,x1,x2,runG_un]
 refine loop_ind (fun(y:List Nm×List Nm) E df H=>rt.nm=y.1++y.2/\(∃rt3 ns3,RootT rt3/\JV f rt3.nm ns3/\H=[.cells [.int .i64 f.b,.int .i64 f.i,.int .i64 f.r,.int .i64 f.t,bv,rv,.sl 1 fl.length (encs i64A fl) tf],.cells z13,.cells (layA f 5 6),.cells (stC f (mkT rt3 ns3) .ro),.cells (layA f 5 6++[.sl 0 0 [] .z,bv,rv]),.tok 7])/\E 1= .ptr 0 0/\E 2= .ptr 1 0/\E 3= .bool false/\E 6= .ptr 3 0/\E 7= .ptr 4 0/\E 9= .sl 7 T0.length (encs tvC T0) (.own 5)/\E 10= .int .i64 ((c:Nat):Int)/\E 11= .int .i64 x/\E 12= .int .i64 ((y.1.length:Nat):Int)/\df=[])
   (fun y=>y.2.length) ([],rt.nm) (by decide) (.inl rfl) ⟨rfl,⟨rt2,ns2,hrt2,j2,by rw[es];rfl⟩,by simp only[en,↓reduceIte,reduceEqDiff,E1],by simp only[en,↓reduceIte,reduceEqDiff,E2],by simp only[en,↓reduceIte,reduceEqDiff,E3],by simp only[en,↓reduceIte,reduceEqDiff,E6],by simp only[en,↓reduceIte,reduceEqDiff,E7],by simp only[en,↓reduceIte,reduceEqDiff,E9],by simp only[en,↓reduceIte,reduceEqDiff,E10],by simp only[en,↓reduceIte,reduceEqDiff],by first|(simp only[en,↓reduceIte,reduceEqDiff];rfl)|simp only[en,↓reduceIte,reduceEqDiff],rfl⟩ ?_
 clear hrt2 j2 E1 E2 E3 E6 E7 E9 E10 rt2 ns2
 intro ⟨pr,sf⟩ E df' H ih2 hQ
 obtain⟨a1,⟨rt3,ns3,hrt3,j3,hH⟩,E1,E2,E3,E6,E7,E9,E10,E11,E12,hdf⟩:=hQ
 dsimp only at a1 E12
 subst hdf hH
 rw[es]
 unfold layA frmA
 simp only[List.cons_append,List.nil_append]
 have la:rt.nm.length=pr.length+sf.length:=by rw[a1,List.length_append]
 cases sf with
 | nil=>
   have n2:¬(pr.length:Int)<(rt.nm.length:Int):=by rw[la];simp
   simp(disch:=omega)only[wk,tupled,↓reduceIte,reduceEqDiff,reduceEq,reduceAdd,reduceCtorEq,E1,E2,E3,E6,E7,E9,E10,E11,E12,tp,e5,hnv,n2,Int.reduceToNat,Int.reduceAdd,Int.reduceSub,Int.reduceMul,Int.reduceNeg,Nat.reduceSub,Nat.reduceDiv]
   exact ih (c+1) _ _ _ (by omega) ⟨nxt,⟨rt3,ns3,hrt3,j3,by rw[es];rfl⟩,by simp only[en,↓reduceIte,reduceEqDiff,E1],by simp only[en,↓reduceIte,reduceEqDiff,E2],by simp only[en,↓reduceIte,reduceEqDiff,E3],by simp only[en,↓reduceIte,reduceEqDiff,E6],by simp only[en,↓reduceIte,reduceEqDiff,E7],by simp only[en,↓reduceIte,reduceEqDiff,E9],by simp only[en,↓reduceIte,reduceEqDiff],rfl⟩
 | cons y r=>
   rw[List.length_cons]at la
   have n2:(pr.length:Int)<(rt.nm.length:Int):=by omega
   obtain rfl:=hsn (by omega)
   have d3:=nm_drop pr y r
   rw[<-a1]at d3
   have x1':x<(T0.length:Int):=x1
   by_cases hy:y.n=t.n
   case neg=>
     simp(disch:=omega)only[wk,tupled,↓reduceIte,reduceEqDiff,reduceEq,reduceAdd,reduceCtorEq,E1,E2,E3,E6,E7,E9,E10,E11,E12,tp,e5,hnv,n2,d3,x0,x1,dt,hy,Int.reduceToNat,Int.reduceAdd,Int.reduceSub,Int.reduceMul,Int.reduceNeg,Nat.reduceSub,Nat.reduceDiv]
     exact ih2 (pr++[y],r) _ _ _ (by simp) ⟨by simp[a1],⟨rt3,ns3,hrt3,j3,by rw[es];rfl⟩,by simp only[en,↓reduceIte,reduceEqDiff,E1],by simp only[en,↓reduceIte,reduceEqDiff,E2],by simp only[en,↓reduceIte,reduceEqDiff,E3],by simp only[en,↓reduceIte,reduceEqDiff,E6],by simp only[en,↓reduceIte,reduceEqDiff,E7],by simp only[en,↓reduceIte,reduceEqDiff,E9],by simp only[en,↓reduceIte,reduceEqDiff,E10],by simp only[en,↓reduceIte,reduceEqDiff,E11],by simp only[en,↓reduceIte,reduceEqDiff],rfl⟩
   have yi:=hi30 y (by rw[a1];simp)
   obtain⟨R,e,r4,ns4,M,rfl,hr4,j4⟩:=gone_ok hrt3 j3 y.i
   have jl3:=j3.len
   have few3:=j3.few
   have dg:=fun H=>do_gone (mkT_ok hrt3 ns3) (mkT_un hrt3 ns3) (by simp[mkT];omega) (JV.ref1 hrt3 j3) yi M (mkT_ok hr4 ns4) (mkT_un hr4 ns4) H
   unfold callC ansC at dg
   rw[es,es]at dg
   have pa:∀{xo yo:X} {ek:EqK},binV .add ek xo yo (.str (ByteArray.mk (Array.mk [UInt8.ofNat 47]))) (.str (nmS y.i))=some (.str (ptS y.i)):=fun{xo yo ek}=>rfl
   simp(disch:=omega)only[wk,tupled,↓reduceIte,reduceEqDiff,reduceEq,reduceAdd,reduceCtorEq,E1,E2,E3,E6,E7,E9,E10,E11,E12,tp,e5,hnv,n2,d3,x0,x1,dt,hy,pa,dg,Int.reduceToNat,Int.reduceAdd,Int.reduceSub,Int.reduceMul,Int.reduceNeg,Nat.reduceSub,Nat.reduceDiv]
   exact ih2 (pr++[y],r) _ _ _ (by simp) ⟨by simp[a1],⟨r4,ns4,hr4,j4,by rw[es];rfl⟩,by simp only[en,↓reduceIte,reduceEqDiff,E1],by simp only[en,↓reduceIte,reduceEqDiff,E2],by simp only[en,↓reduceIte,reduceEqDiff,E3],by simp only[en,↓reduceIte,reduceEqDiff,E6],by simp only[en,↓reduceIte,reduceEqDiff,E7],by simp only[en,↓reduceIte,reduceEqDiff,E9],by simp only[en,↓reduceIte,reduceEqDiff,E10],by simp only[en,↓reduceIte,reduceEqDiff,E11],by simp only[en,↓reduceIte,reduceEqDiff],rfl⟩
def cntN (n:Int):List Nm->Int
 |[]=>0
 |y::r=>(if y.n=n then 1 else 0)+cntN n r
def linksM (n:Int):List Tv->Int
 |[]=>0
 |t::r=>cntN n t.nm+linksM n r
theorem cntN_nn (n:Int):∀l,0<=cntN n l/\cntN n l<=(l.length:Int)
 |[]=>⟨Int.le_refl 0,Int.le_refl 0⟩
 | y::r=>by
   have:=cntN_nn n r
   rw[cntN,List.length_cons]
   split<;>omega
theorem linksM_nn (n:Int):∀T,0<=linksM n T/\linksM n T<=namesM T
 |[]=>⟨Int.le_refl 0,Int.le_refl 0⟩
 | t::r=>by
   have:=linksM_nn n r
   have:=cntN_nn n t.nm
   rw[linksM,namesM_cons]
   omega
theorem stC_ro (f:Frm) (T:List Tv):stC f T .ro=[.int .i64 f.b,.int .i64 f.i,.int .i64 f.r,.int .i64 f.t,.int .u64 5,.int .u64 6,.int .i64 9,.int .i64 (9+f.i/4),.int .i64 (9+f.i/4+f.r/4),.int .i64 (9+f.i/4+f.r/4+1),.sl 7 T.length (encs tvC T) .ro]:=rfl
theorem links_px (f:Frm) {T:List Tv} (hT:okT T) (hl:T.length<=900) (hm:namesM T<=100000) (n:Int) (H:Heap):pcx (cbL tab) 125 [.agg (stC f T .ro),.int .i64 n] H=some (.plain (.int .i64 (linksM n T))):=by
 have hh:=hf_st f hT (tk:= .ro) rfl
 refine pcx_N rfl (pc_wp (fi:=c125) rfl ?_ (by simp[c125]) (by decide) ?_)
 . simp only[pcOn,List.map_cons,List.map_nil,lend_st f T (.inl rfl),lend_int,c125,hfL,AV.hf,hh,Bool.and_self]
 unfold c125
 rw[List.map_cons,List.map_cons,List.map_nil,lend_st f T (.inl rfl),lend_int]
 obtain⟨R,hR⟩:∃R,R=linksM n T:=⟨_,rfl⟩
 have hRn:=linksM_nn n T
 rw[<-hR]at hRn ⊢
 rw[stC_ro]
 simp(disch:=omega)only[wk,tupled,↓reduceIte,reduceEqDiff,reduceEq,reduceAdd,reduceCtorEq]
 refine loop_ind (fun(x:List Tv×List Tv×Int) E df H=>T=x.1++x.2.1/\0<=x.2.2/\R=x.2.2+linksM n x.2.1/\E 1= .int .i64 n/\E 2= .ptr 0 0/\E 5= .int .i64 x.2.2/\E 6= .int .i64 ((x.1.length:Nat):Int)/\df=[]/\H=[.cells (stC f T .ro)])
   (fun x=>x.2.1.length) ([],T,0) (by decide) (.inl rfl) ⟨rfl,Int.le_refl 0,by rw[hR];simp,rfl,rfl,rfl,rfl,rfl,rfl⟩ ?_
 intro ⟨pre,suf,s⟩ E df H ih hP
 obtain⟨a1,s0,a2,E1,E2,E5,E6,hdf,hH⟩:=hP
 dsimp only at a1 s0 a2 E5 E6
 rw[stC_ro]at hH
 subst hdf hH
 have la:T.length=pre.length+suf.length:=by rw[a1,List.length_append]
 cases suf with
 | nil=>
   have n1:¬(pre.length:Int)<(T.length:Int):=by rw[la];simp
   rw[show R=s by rw[a2];simp[linksM]]
   simp(disch:=omega)only[wk,tupled,↓reduceIte,reduceEqDiff,reduceEq,reduceAdd,reduceCtorEq,E1,E2,E5,E6,n1,purify,unownT,lend,unown,AV.hf,hfL]
 | cons t r=>
   rw[List.length_cons]at la
   have n1:(pre.length:Int)<(T.length:Int):=by omega
   have d1:=tv_drop pre t r
   rw[<-a1]at d1
   have hrn:=linksM_nn n r
   rw[linksM]at a2
   have hto:=hT t (by rw[a1];simp)
   obtain⟨s1,t1,hv,hs1,_⟩:=hto.n
   have few:=hto.few
   simp(disch:=omega)only[wk,tupled,↓reduceIte,reduceEqDiff,reduceEq,reduceAdd,reduceCtorEq,E1,E2,E5,E6,n1,d1]
   refine loop_ind (fun(x:List Nm×List Nm×Int) E df H=>t.nm=x.1++x.2.1/\0<=x.2.2/\R=x.2.2+cntN n x.2.1+linksM n r/\E 1= .int .i64 n/\E 2= .ptr 0 0/\E 5= .int .i64 x.2.2/\E 6= .int .i64 ((pre.length:Nat):Int)/\E 7= .int .i64 ((x.1.length:Nat):Int)/\df=[]/\H=[.cells (stC f T .ro)])
     (fun x=>x.2.1.length) ([],t.nm,s) (by decide) (.inl rfl) ⟨rfl,s0,by dsimp only;omega,by simp only[en,↓reduceIte,reduceEqDiff,E1],by simp only[en,↓reduceIte,reduceEqDiff,E2],by simp only[en,↓reduceIte,reduceEqDiff,E5],by simp only[en,↓reduceIte,reduceEqDiff,E6],by simp only[en,↓reduceIte,reduceEqDiff];rfl,rfl,rfl⟩ ?_
   clear E1 E2 E5 E6
   intro ⟨pr,sf,q⟩ E df H ih2 hQ
   obtain⟨b1,q0,b2,E1,E2,E5,E6,E7,hdf,hH⟩:=hQ
   dsimp only at b1 q0 b2 E5 E7
   rw[stC_ro]at hH
   subst hdf hH
   have lb:t.nm.length=pr.length+sf.length:=by rw[b1,List.length_append]
   cases sf with
   | nil=>
     have n2:¬(pr.length:Int)<(t.nm.length:Int):=by rw[lb];simp
     simp(disch:=omega)only[wk,tupled,↓reduceIte,reduceEqDiff,reduceEq,reduceAdd,reduceCtorEq,E1,E2,E5,E6,E7,n1,d1,hv,n2]
     exact ih (pre++[t],r,q) _ _ _ (by simp) ⟨by simp[a1],q0,by dsimp only;rw[b2];simp[cntN],by simp only[en,↓reduceIte,reduceEqDiff,E1],by simp only[en,↓reduceIte,reduceEqDiff,E2],by simp only[en,↓reduceIte,reduceEqDiff,E5],by simp only[en,↓reduceIte,reduceEqDiff],rfl,rfl⟩
   | cons y w=>
     rw[List.length_cons]at lb
     have n2:(pr.length:Int)<(t.nm.length:Int):=by omega
     obtain rfl:=hs1 (by omega)
     have d2:=nm_drop pr y w
     rw[<-b1]at d2
     rw[cntN]at b2
     have hcn:=cntN_nn n w
     by_cases h:y.n=n
     . rw[if_pos h]at b2
       simp(disch:=omega)only[wk,tupled,↓reduceIte,reduceEqDiff,reduceEq,reduceAdd,reduceCtorEq,E1,E2,E5,E6,E7,n1,d1,hv,n2,d2,h]
       exact ih2 (pr++[y],w,q+1) _ _ _ (by simp) ⟨by simp[b1],by dsimp only;omega,by dsimp only;omega,by simp only[en,↓reduceIte,reduceEqDiff,E1],by simp only[en,↓reduceIte,reduceEqDiff,E2],by simp only[en,↓reduceIte,reduceEqDiff],by simp only[en,↓reduceIte,reduceEqDiff,E6],by simp only[en,↓reduceIte,reduceEqDiff],rfl,rfl⟩
     . rw[if_neg h]at b2
       simp(disch:=omega)only[wk,tupled,↓reduceIte,reduceEqDiff,reduceEq,reduceAdd,reduceCtorEq,E1,E2,E5,E6,E7,n1,d1,hv,n2,d2,h]
       exact ih2 (pr++[y],w,q) _ _ _ (by simp) ⟨by simp[b1],q0,by dsimp only;omega,by simp only[en,↓reduceIte,reduceEqDiff,E1],by simp only[en,↓reduceIte,reduceEqDiff,E2],by simp only[en,↓reduceIte,reduceEqDiff,E5],by simp only[en,↓reduceIte,reduceEqDiff,E6],by simp only[en,↓reduceIte,reduceEqDiff],rfl,rfl⟩
structure NmOk (f:Frm) (T:List Tv) (l:List Nm):Prop where
 i30:∀y∈l,y.i<30
 idx:(l.map (·.i)).Nodup
 key:l.Pairwise fun a b=>a.k<b.k
 sum:∀y∈l,0<=y.k/\y.k/65536=((sumP y.i f.t.toNat:Nat):Int)
 at_:∀y∈l,0<=findM T y.n 0
 few:l.length<=1000
theorem nmsok_px {f:Frm} (hf:okF f) {T:List Tv} (hT:okT T) (hl:T.length<=900) {l:List Nm} (N:NmOk f T l) {v:AV} (hv:IsR 3 l.length (encs nmC l) v) (H:Heap):
   pcx (cbL tab) 126 [.agg (stC f T .ro),v] H=some (.plain (.bool true)):=by
 obtain⟨i30,idx,key,sum,at_,few⟩:=N
 have hh:=hf_st f hT (tk:= .ro) rfl
 have hvh:=hv.hf (hfL_encs hf_nmC _)
 obtain⟨s,tk,rfl,hs,htk⟩:=hv
 have e2:lend (.sl s l.length (encs nmC l) tk)= .sl s l.length (encs nmC l) tk:=by cases tk<;>first|rfl|cases htk
 refine pcx_N rfl (pc_wp (fi:=c126) rfl ?_ (by simp[c126]) (by decide) ?_)
 . simp only[pcOn,List.map_cons,List.map_nil,lend_st f T (.inl rfl),e2,c126,hfL,hvh,Bool.and_true]
   show hfL _=true
   exact hh
 unfold c126
 rw[List.map_cons,List.map_cons,List.map_nil,lend_st f T (.inl rfl),e2]
 have fd:=fun n H=>find_px f hT (by omega) n (.inl rfl) H
 have el:∀i,i<30->∀H,_:=fun i hi H=>rrsum_px hf (i:=i) hi H
 unfold layA frmA at el
 simp only[List.cons_append,List.nil_append]at el
 rw[stC_ro]at fd ⊢
 simp(disch:=omega)only[wk,tupled,↓reduceIte,reduceEqDiff,reduceEq,reduceAdd,reduceCtorEq]
 refine loop_ind (fun(x:List Nm×List Nm) E df H=>l=x.1++x.2/\E 1= .sl s l.length (encs nmC l) tk/\E 2= .ptr 0 0/\E 5= .int .i64 ((x.1.length:Nat):Int)/\df=[]/\H=[.cells (stC f T .ro)])
   (fun x=>x.2.length) ([],l) (by decide) (.inl rfl) ⟨rfl,rfl,rfl,rfl,rfl,rfl⟩ ?_
 intro ⟨pre,suf⟩ E df H ih hP
 obtain⟨a1,E1,E2,E5,hdf,hH⟩:=hP
 dsimp only at a1 E5
 rw[stC_ro]at hH
 subst hdf hH
 have la:l.length=pre.length+suf.length:=by rw[a1,List.length_append]
 cases suf with
 | nil=>
   have n1:¬(pre.length:Int)<(l.length:Int):=by rw[la];simp
   simp(disch:=omega)only[wk,tupled,↓reduceIte,reduceEqDiff,reduceEq,reduceAdd,reduceCtorEq,E1,E2,E5,n1,purify,unownT,lend,unown,AV.hf,hfL]
 | cons y r=>
   rw[List.length_cons]at la
   have n1:(pre.length:Int)<(l.length:Int):=by omega
   obtain rfl:=hs (by omega)
   have d1:=nm_drop pre y r
   rw[<-a1]at d1
   have ym:y∈l:=by rw[a1];simp
   have yi:=i30 y ym
   have sp:=el y.i yi
   obtain⟨k0,k1⟩:=sum y ym
   have f0:¬findM T y.n 0<0:=by have:=at_ y ym;omega
   have pl:=sumP_lt y.i (b:=f.t.toNat) (by have:=hf.2.2.2.2.2.2.2.2.2.1;omega)
   generalize sumP y.i f.t.toNat=q at sp k1 pl
   have wq:IntKind.u64.wrap (q:Int)=(q:Int):=wrap_u64 (by omega) (by omega)
   have idp:∀z∈pre,z.i≠y.i:=fun z hz e=>by
     rw[a1,List.map_append,List.map_cons,List.nodup_append]at idx
     exact idx.2.2 z.i (List.mem_map.2 ⟨z,hz,rfl⟩) y.i (List.mem_cons_self ..) e
   rcases List.eq_nil_or_concat pre with rfl|⟨p,z,rfl⟩
   . have n3:¬(0:Int)<0:=by omega
     rw[List.length_nil,Nat.zero_mul]at d1
     have E5:E 5= .int .i64 0:=E5
     rw[List.length_nil]at n1
     have n1:(0:Int)<(l.length:Int):=n1
     simp(disch:=omega)only[wk,tupled,↓reduceIte,reduceEqDiff,reduceEq,reduceAdd,reduceCtorEq,E1,E2,E5,n1,d1,sp,k0,k1,wq,fd,f0,n3,Int.reduceToNat,Int.reduceAdd,Int.reduceSub,Int.reduceMul,Int.reduceNeg,Nat.reduceSub,Nat.reduceDiv,runG_un]
     rw[ret_loop]
     simp(disch:=omega)only[wk,tupled,↓reduceIte,reduceEqDiff,reduceEq,reduceAdd,reduceCtorEq,E1,E2,E5,n3]
     exact ih ([]++[y],r) _ _ _ (by simp) ⟨by simp[a1],by simp only[en,↓reduceIte,reduceEqDiff,E1],by simp only[en,↓reduceIte,reduceEqDiff,E2],by simp only[en,↓reduceIte,reduceEqDiff];rfl,rfl,rfl⟩
   . simp only[List.concat_eq_append]at*
     have lp:(p++[z]).length=p.length+1:=by simp
     have d0:=nm_drop p z (y::r)
     have a1':l=p++z::y::r:=by rw[a1];simp
     rw[<-a1']at d0
     have zk:z.k<y.k:=by
       rw[a1']at key
       exact(List.pairwise_cons.1 (List.pairwise_append.1 key).2.1).1 y (List.mem_cons_self ..)
     rw[lp]at E5 n1 d1
     have n1:(p.length:Int)+1<(l.length:Int):=n1
     have E5:E 5= .int .i64 ((p.length:Int)+1):=E5
     have n3:(0:Int)<(p.length:Int)+1:=by omega
     have n4:¬y.k<=z.k:=by omega
     have p1:(0:Int)<=(p.length:Int)+1:=by omega
     have tn:((p.length:Int)+1).toNat=p.length+1:=by omega
     have s1:(p.length:Int)+1-1=(p.length:Int):=by omega
     have n5:(p.length:Int)<(l.length:Int):=by omega
     simp(disch:=omega)only[wk,tupled,↓reduceIte,reduceEqDiff,reduceEq,reduceAdd,reduceCtorEq,E1,E2,E5,n1,p1,tn,d1,d0,s1,n5,sp,k0,k1,wq,fd,f0,n3,n4,Int.reduceToNat,Int.reduceAdd,Int.reduceSub,Int.reduceMul,Int.reduceNeg,Nat.reduceSub,Nat.reduceDiv,runG_un]
     refine loop_ind (fun(x:List Nm×List Nm) E df H=>p++[z]=x.1++x.2/\E 1= .sl 3 l.length (encs nmC l) tk/\E 2= .ptr 0 0/\E 5= .int .i64 ((p.length:Int)+1)/\E 8= .int .i64 ((x.1.length:Nat):Int)/\df=[]/\H=[.cells (stC f T .ro)])
       (fun x=>x.2.length) ([],p++[z]) (by decide) (.inl rfl) ⟨rfl,by simp only[en,↓reduceIte,reduceEqDiff,E1],by simp only[en,↓reduceIte,reduceEqDiff,E2],by simp only[en,↓reduceIte,reduceEqDiff,E5],by simp only[en,↓reduceIte,reduceEqDiff];rfl,rfl,rfl⟩ ?_
     clear E1 E2 E5
     intro ⟨pr,sf⟩ E df H ih2 hQ
     obtain⟨b1,E1,E2,E5,E8,hdf,hH⟩:=hQ
     dsimp only at b1 E8
     rw[stC_ro]at hH
     subst hdf hH
     have lb:p.length+1=pr.length+sf.length:=by have:=congrArg List.length b1;simpa using this
     cases sf with
     | nil=>
       have n6:¬(pr.length:Int)<(p.length:Int)+1:=by rw[List.length_nil]at lb;omega
       simp(disch:=omega)only[wk,tupled,↓reduceIte,reduceEqDiff,reduceEq,reduceAdd,reduceCtorEq,E1,E2,E5,E8,n6]
       exact ih (p++[z]++[y],r) _ _ _ (by simp) ⟨by simp[a1],by simp only[en,↓reduceIte,reduceEqDiff,E1],by simp only[en,↓reduceIte,reduceEqDiff,E2],by simp only[en,↓reduceIte,reduceEqDiff],rfl,rfl⟩
     | cons w u=>
       rw[List.length_cons]at lb
       have n6:(pr.length:Int)<(p.length:Int)+1:=by omega
       have n7:(pr.length:Int)<(l.length:Int):=by omega
       have d2:=nm_drop pr w (u++y::r)
       have a2:l=pr++w::(u++y::r):=by rw[a1,b1];simp
       rw[<-a2]at d2
       have wm:w∈p++[z]:=by rw[b1];simp
       have sq:=nmS_inj (i30 w (by rw[a2];simp)) yi
       rw[decide_eq_false (idp w wm)]at sq
       simp(disch:=omega)only[wk,tupled,↓reduceIte,reduceEqDiff,reduceEq,reduceAdd,reduceCtorEq,E1,E2,E5,E8,n6,n7,d2,n1,p1,tn,d1,bv_streq,sq]
       exact ih2 (pr++[w],u) _ _ _ (by simp) ⟨by simp[b1],by simp only[en,↓reduceIte,reduceEqDiff,E1],by simp only[en,↓reduceIte,reduceEqDiff,E2],by simp only[en,↓reduceIte,reduceEqDiff,E5],by simp only[en,↓reduceIte,reduceEqDiff],rfl,rfl⟩
theorem cntN_perm {n:Int} {l:List Nm}:cntN n l=((l.map (·.n)).count n:Nat):=by
 induction l with
 |nil=>rfl
 | cons y r ih=>
   rw[cntN,ih,List.map_cons,List.count_cons]
   by_cases h:y.n=n
   . simp[h];omega
   . have:(y.n==n)=false:=by simpa using h
     simp[h,this]
theorem links_mk {f:Frm} {rt:Tv} {ns:List Int} (j:JV f rt.nm ns) (n:Int):linksM n (mkT rt ns)=if n∈ns then 1 else 0:=by
 have h0:linksM n (ns.map fileT)=0:=by
   clear j
   induction ns with
   |nil=>rfl
   |cons m r ih=>rw[List.map_cons,linksM,ih];rfl
 have hnd:ns.Nodup:=j.sort.imp fun h e=>by omega
 unfold mkT
 rw[linksM,h0,cntN_perm,j.perm.count_eq,Int.add_zero]
 rw[List.Nodup.count hnd]
 split<;>rfl
theorem nmOk_mk {f:Frm} {rt:Tv} (h:RootT rt) {ns:List Int} (j:JV f rt.nm ns):NmOk f (mkT rt ns) rt.nm:=by
 refine⟨j.i30,j.idx,j.key,fun y hy=>⟨(j.sum y hy).1,(j.sum y hy).2.2⟩,fun y hy=> ?_,by have:=j.few;omega⟩
 obtain⟨pre,x,suf,_,h2,_,_⟩:=(JV.ref1 h j).at_ y hy
 rw[h2];omega
theorem nmOk_nil (f:Frm) (T:List Tv):NmOk f T []:=⟨by simp,by simp,.nil,by simp,by simp,by simp⟩
theorem rthing_px {f:Frm} (hf:okF f) {rt:Tv} (h:RootT rt) {ns:List Int} (j:JV f rt.nm ns) (H:Heap):
   pcx (cbL tab) 101 [.agg (stC f (mkT rt ns) .ro),.agg (tvC rt)] H=some (.plain (.bool true)):=by
 have hT:=mkT_ok h ns
 have jl:=j.len
 have few:=j.few
 have lT:(mkT rt ns).length<=900:=by simp[mkT];omega
 have hh:=hf_st f hT (tk:= .ro) rfl
 have hx:=tvC_hf h.ok
 obtain⟨sb,tb,hb,hsb,qb⟩:=h.ok.b
 obtain⟨sn,tn,hn,hsn,qn⟩:=h.ok.n
 have lx:lend (.agg (tvC rt))= .agg (tvC rt):=by
   have b1:unown rt.bv=rt.bv:=by rw[hb];cases tb<;>first|rfl|cases qb
   have b2:unown rt.nv=rt.nv:=by rw[hn];cases tn<;>first|rfl|cases qn
   show AV.agg [_,_,_,unown rt.bv,_,unown rt.nv,_]=_
   rw[b1,b2];rfl
 refine pcx_N rfl (pc_wp (fi:=c101) rfl ?_ (by simp[c101]) (by decide) ?_)
 . simp only[pcOn,List.map_cons,List.map_nil,lend_st f _ (.inl rfl),lx,c101,hfL,AV.hf,hh,hx,Bool.and_self]
 unfold c101
 rw[List.map_cons,List.map_cons,List.map_nil,lend_st f _ (.inl rfl),lx]
 have lk:=fun H=>links_px f hT (by omega) (by rw[namesM_mk];omega) 1 H
 have l0:linksM 1 (mkT rt ns)=0:=by
   rw[links_mk j,if_neg]
   intro hm
   have:=(j.rng 1 hm).1
   omega
 rw[l0]at lk
 have nk:=fun H=>nmsok_px hf hT lT (nmOk_mk h j) h.ok.n H
 have ux:tvC rt=[.int .i64 1,.int .i64 2,.int .i64 1,rt.bv,.int .i64 1,rt.nv,.str (ByteArray.mk (Array.mk []))]:=by
   unfold tvC;rw[h.n,h.k,h.l,h.p]
 have fi:=hf.2.2.1
 have n1:¬f.i<1:=by omega
 have ob:=h.ok.b.one
 have on:=h.ok.n.one
 have es:((ByteArray.mk (Array.mk [])).toList==(ByteArray.mk (Array.mk [])).toList)=true:=by simp
 have sn0:∀{xo yo:X} {ek:EqK},binV .neq ek xo yo (.str (ByteArray.mk (Array.mk []))) (.str (ByteArray.mk (Array.mk [])))=some (.bool false):=fun{xo yo ek}=>by
   show some (AV.bool (!((ByteArray.mk (Array.mk [])).toList==(ByteArray.mk (Array.mk [])).toList)))=_
   rw[es];rfl
 generalize mkT rt ns=T at*
 rw[stC_ro]at lk nk ⊢
 rw[ux]
 simp(disch:=omega)only[wk,tupled,↓reduceIte,reduceEqDiff,reduceEq,reduceAdd,reduceCtorEq,lk,nk,n1,ob,on,hb,sn0,runG_un,Int.reduceToNat,Int.reduceAdd,Int.reduceSub,Int.reduceMul,Int.reduceNeg,Nat.reduceSub,Nat.reduceDiv,purify,unownT,lend,unown,AV.hf,hfL]
theorem fthing_px {f:Frm} (hf:okF f) {rt:Tv} (h:RootT rt) {ns:List Int} (j:JV f rt.nm ns) {n:Int} (hn:n∈ns) (H:Heap):
   pcx (cbL tab) 101 [.agg (stC f (mkT rt ns) .ro),.agg (tvC (fileT n))] H=some (.plain (.bool true)):=by
 have hT:=mkT_ok h ns
 have jl:=j.len
 have few:=j.few
 have lT:(mkT rt ns).length<=900:=by simp[mkT];omega
 have hh:=hf_st f hT (tk:= .ro) rfl
 have hx:=tvC_hf (fileT_ok n)
 have lx:lend (.agg (tvC (fileT n)))= .agg (tvC (fileT n)):=rfl
 refine pcx_N rfl (pc_wp (fi:=c101) rfl ?_ (by simp[c101]) (by decide) ?_)
 . simp only[pcOn,List.map_cons,List.map_nil,lend_st f _ (.inl rfl),lx,c101,hfL,AV.hf,hh,hx,Bool.and_self]
 unfold c101
 rw[List.map_cons,List.map_cons,List.map_nil,lend_st f _ (.inl rfl),lx]
 have lk:=fun H=>links_px f hT (by omega) (by rw[namesM_mk];omega) n H
 rw[links_mk j,if_pos hn]at lk
 have nk:=fun H=>nmsok_px hf hT lT (nmOk_nil f _) (v:= .sl 3 0 [] .e) ⟨3,.e,rfl,fun _=>rfl,rfl⟩ H
 have ux:tvC (fileT n)=[.int .i64 n,.int .i64 1,.int .i64 1,.sl 1 0 [] .e,.int .i64 0,.sl 3 0 [] .e,.str (ByteArray.mk (Array.mk []))]:=rfl
 obtain⟨n2,ni⟩:=j.rng n hn
 have n1:¬f.i<n:=by omega
 have n3:¬n<1:=by omega
 have n4:¬n=1:=by omega
 have es:((ByteArray.mk (Array.mk [])).toList==(ByteArray.mk (Array.mk [])).toList)=true:=by simp
 have sn0:∀{xo yo:X} {ek:EqK},binV .neq ek xo yo (.str (ByteArray.mk (Array.mk []))) (.str (ByteArray.mk (Array.mk [])))=some (.bool false):=fun{xo yo ek}=>by
   show some (AV.bool (!((ByteArray.mk (Array.mk [])).toList==(ByteArray.mk (Array.mk [])).toList)))=_
   rw[es];rfl
 generalize mkT rt ns=T at*
 rw[stC_ro]at lk nk ⊢
 rw[ux]
 simp(disch:=omega)only[wk,tupled,↓reduceIte,reduceEqDiff,reduceEq,reduceAdd,reduceCtorEq,lk,nk,n1,n3,n4,sn0,runG_un,Int.reduceToNat,Int.reduceAdd,Int.reduceSub,Int.reduceMul,Int.reduceNeg,Nat.reduceSub,Nat.reduceDiv,purify,unownT,lend,unown,AV.hf,hfL]
theorem rRight_px {f:Frm} (hf:okF f) {rt:Tv} (h:RootT rt) {ns:List Int} (j:JV f rt.nm ns) (H:Heap):
   pcx (cbL tab) 71 [.agg (stC f (mkT rt ns) .ro)] H=some (.plain (.bool true)):=by
 have hT:=mkT_ok h ns
 have jl:=j.len
 have few:=j.few
 have rcd:=j.rcd
 have lT:(mkT rt ns).length<=900:=by simp[mkT];omega
 have hh:=hf_st f hT (tk:= .ro) rfl
 refine pcx_N rfl (pc_wp (fi:=c71) rfl ?_ (by simp[c71]) (by decide) ?_)
 . simp only[pcOn,List.map_cons,List.map_nil,lend_st f _ (.inl rfl),c71,hfL,AV.hf,hh,Bool.and_self]
 unfold c71
 rw[List.map_cons,List.map_nil,lend_st f _ (.inl rfl)]
 have np:=fun H=>names_px f hT (by omega) (tk:= .ro) (.inl rfl) (by rw[namesM_mk];omega) H
 rw[namesM_mk]at np
 have tp:∀t∈mkT rt ns,∀H,pcx (cbL tab) 101 [.agg (stC f (mkT rt ns) .ro),.agg (tvC t)] H=some (.plain (.bool true)):=fun t ht H=>by
   rcases List.mem_cons.1 ht with rfl|ht
   . exact rthing_px hf h j H
   . obtain⟨n,hn,rfl⟩:=List.mem_map.1 ht
     exact fthing_px hf h j hn H
 have sorted:(mkT rt ns).Pairwise fun a b=>a.n<b.n:=by
   refine List.pairwise_cons.2 ⟨fun t ht=> ?_, ?_⟩
   . obtain⟨n,hn,rfl⟩:=List.mem_map.1 ht
     have:=(j.rng n hn).1
     rw[h.n]
     show(1:Int)<n
     omega
   . rw[List.pairwise_map]
     exact j.sort
 have lT2:(mkT rt ns).length=ns.length+1:=by simp[mkT]
 have dr:=tv_drop [] rt (ns.map fileT)
 have dr:List.drop 0 (encs tvC (mkT rt ns))= .int .i64 rt.n:: .int .i64 rt.k:: .int .i64 rt.l::rt.bv:: .int .i64 rt.p::rt.nv:: .str (ByteArray.mk (Array.mk []))::encs tvC (ns.map fileT):=dr
 rw[List.drop_zero]at dr
 have d0:(encs tvC (mkT rt ns))[0]? =some (.int .i64 1):=by rw[dr,h.n];rfl
 clear dr
 generalize hT':mkT rt ns=T at*
 have q1:¬(T.length:Int)=0:=by omega
 have q2:(0:Int)<(T.length:Int):=by omega
 have q3:¬(256:Int)<(T.length:Int):=by omega
 have q4:¬f.r<(rt.nm.length:Int):=by omega
 rw[stC_ro]at np ⊢
 simp(disch:=omega)only[wk,tupled,↓reduceIte,reduceEqDiff,reduceEq,reduceAdd,reduceCtorEq,np,d0,q1,q2,q3,q4,runG_un,Int.reduceToNat,Int.reduceAdd,Int.reduceSub,Int.reduceMul,Int.reduceNeg,Nat.reduceSub,Nat.reduceDiv]
 refine loop_ind (fun(x:List Tv×List Tv) E df H=>T=x.1++x.2/\E 1= .ptr 0 0/\E 3= .int .i64 ((x.1.length:Nat):Int)/\df=[]/\H=[.cells (stC f T .ro)])
   (fun x=>x.2.length) ([],T) (by decide) (.inl rfl) ⟨rfl,rfl,rfl,rfl,rfl⟩ ?_
 intro ⟨pre,suf⟩ E df H ih hP
 obtain⟨a1,E1,E3,hdf,hH⟩:=hP
 dsimp only at a1 E3
 rw[stC_ro]at hH
 subst hdf hH
 have la:T.length=pre.length+suf.length:=by rw[a1,List.length_append]
 cases suf with
 | nil=>
   have n1:¬(pre.length:Int)<(T.length:Int):=by rw[la];simp
   simp(disch:=omega)only[wk,tupled,↓reduceIte,reduceEqDiff,reduceEq,reduceAdd,reduceCtorEq,E1,E3,n1,purify,unownT,lend,unown,AV.hf,hfL]
 | cons t r=>
   rw[List.length_cons]at la
   have n1:(pre.length:Int)<(T.length:Int):=by omega
   have d1:=tv_drop pre t r
   rw[<-a1]at d1
   have tm:t∈T:=by rw[a1];simp
   have tp1:=tp t tm
   have ob:=(hT t tm).b.one
   have on:=(hT t tm).n.one
   have ut:tvC t=[.int .i64 t.n,.int .i64 t.k,.int .i64 t.l,t.bv,.int .i64 t.p,t.nv,.str (ByteArray.mk (Array.mk []))]:=rfl
   rw[stC_ro,ut]at tp1
   rcases List.eq_nil_or_concat pre with rfl|⟨p,z,rfl⟩
   . have n3:¬(0:Int)<0:=by omega
     rw[List.length_nil,Nat.zero_mul]at d1
     have E3:E 3= .int .i64 0:=E3
     simp(disch:=omega)only[wk,tupled,↓reduceIte,reduceEqDiff,reduceEq,reduceAdd,reduceCtorEq,E1,E3,q2,n3,d1,tp1,ob,on,runG_un,Int.reduceToNat,Int.reduceAdd,Int.reduceSub,Int.reduceMul,Int.reduceNeg,Nat.reduceSub,Nat.reduceDiv]
     exact ih ([]++[t],r) _ _ _ (by simp) ⟨by simp[a1],by simp only[en,↓reduceIte,reduceEqDiff,E1],by simp only[en,↓reduceIte,reduceEqDiff];rfl,rfl,by rw[stC_ro]⟩
   . simp only[List.concat_eq_append]at*
     have lp:(p++[z]).length=p.length+1:=by simp
     have d2:=tv_drop p z (t::r)
     have a1':T=p++z::t::r:=by rw[a1];simp
     rw[<-a1']at d2
     have zt:z.n<t.n:=by
       rw[a1']at sorted
       exact(List.pairwise_cons.1 (List.pairwise_append.1 sorted).2.1).1 t (List.mem_cons_self ..)
     rw[lp]at E3 n1 d1
     have n1:(p.length:Int)+1<(T.length:Int):=n1
     have E3:E 3= .int .i64 ((p.length:Int)+1):=E3
     have n3:(0:Int)<(p.length:Int)+1:=by omega
     have n4:¬t.n<=z.n:=by omega
     have p1:(0:Int)<=(p.length:Int)+1:=by omega
     have tn:((p.length:Int)+1).toNat=p.length+1:=by omega
     have s1:(p.length:Int)+1-1=(p.length:Int):=by omega
     have n5:(p.length:Int)<(T.length:Int):=by omega
     simp(disch:=omega)only[wk,tupled,↓reduceIte,reduceEqDiff,reduceEq,reduceAdd,reduceCtorEq,E1,E3,n1,n3,p1,tn,d1,d2,s1,n5,n4,tp1,ob,on,runG_un,Int.reduceToNat,Int.reduceAdd,Int.reduceSub,Int.reduceMul,Int.reduceNeg,Nat.reduceSub,Nat.reduceDiv]
     exact ih (p++[z]++[t],r) _ _ _ (by simp) ⟨by simp[a1],by simp only[en,↓reduceIte,reduceEqDiff,E1],by simp only[en,↓reduceIte,reduceEqDiff],rfl,by rw[stC_ro]⟩
theorem rOf_pc {f:Frm} (hf:okF f) {rt:Tv} (h:RootT rt) {ns:List Int} (j:JV f rt.nm ns) (H:Heap):
   pcx (cbL tab) 35 [.agg (layA f 5 6),.sl 7 (mkT rt ns).length (encs tvC (mkT rt ns)) .ro] H=some (.plain (.tup [.agg (stC f (mkT rt ns) .ro),.int .i64 0])):=by
 have hT:=mkT_ok h ns
 have hhT:=okT_hf hT
 refine pcx_N rfl (pc_wp (fi:=c35) rfl ?_ (by simp[c35]) (by decide) ?_)
 . simp only[pcOn,List.map_cons,List.map_nil,lend_ro,show lend (.agg (layA f 5 6))= .agg (layA f 5 6)from rfl,c35,hfL,AV.hf,hhT,Bool.true_and];rfl
 unfold c35
 rw[List.map_cons,List.map_cons,List.map_nil,lend_ro,show lend (.agg (layA f 5 6))= .agg (layA f 5 6)from rfl]
 have rr:=fun H=>rright_px hf H
 have rg:=fun H=>rRight_px hf h j H
 have hh:=hf_st f hT (tk:= .ro) rfl
 have un:unown (.sl 7 (mkT rt ns).length (encs tvC (mkT rt ns)) .ro)= .sl 7 (mkT rt ns).length (encs tvC (mkT rt ns)) .ro:=rfl
 generalize mkT rt ns=T at*
 unfold layA frmA at rr ⊢
 simp only[List.cons_append,List.nil_append]at rr ⊢
 rw[stC_ro]at rg hh ⊢
 have pp:∀H,purify (some (.ret (.tup [.agg [.int .i64 f.b,.int .i64 f.i,.int .i64 f.r,.int .i64 f.t,.int .u64 5,.int .u64 6,.int .i64 9,.int .i64 (9+f.i/4),.int .i64 (9+f.i/4+f.r/4),.int .i64 (9+f.i/4+f.r/4+1),.sl 7 T.length (encs tvC T) .ro],.int .i64 0]),H))=some (.plain (.tup [.agg [.int .i64 f.b,.int .i64 f.i,.int .i64 f.r,.int .i64 f.t,.int .u64 5,.int .u64 6,.int .i64 9,.int .i64 (9+f.i/4),.int .i64 (9+f.i/4+f.r/4),.int .i64 (9+f.i/4+f.r/4+1),.sl 7 T.length (encs tvC T) .ro],.int .i64 0])):=fun H=>by
   simp only[purify,unownT,lend,List.map_cons,List.map_nil,unown,AV.hf,hfL,hhT,Tk.hf,Bool.and_self,if_true]
 simp(disch:=omega)only[wk,tupled,↓reduceIte,reduceEqDiff,reduceEq,reduceAdd,reduceCtorEq,rr,rg,pp]
theorem gp_un {b:Bool} {o:Option (AV×Option AObj)}:GP (.tup []) b o=some (.tup [],none):=(rfl)
def risM (a b:Int):Option Int->List Int->Bool
 |_,[]=>true
 |p,x::r=>decide (a<=x/\x<b/\∀y,p=some y->y<x)&&risM a b (some x) r
theorem risM_cons {a b:Int} {p:Option Int} {x:Int} {r:List Int}:risM a b p (x::r)=(decide (a<=x/\x<b/\∀y,p=some y->y<x)&&risM a b (some x) r):=rfl
theorem i_drop (pre:List Int) (x:Int) (r:List Int):List.drop pre.length (encs i64A (pre++x::r))= .int .i64 x::encs i64A r:=by
 have:=drop_pre (f:=i64A) pre (x::r)
 rw[Nat.mul_one]at this
 rw[this,encs_cons];rfl
theorem lastI {pre:List Int} {z:Int}:(pre++[z]).getLast? =some z:=by simp
theorem rising_px {l:List Int} {v:AV} (hv:IntR l v) (hl:l.length<=100000) (a b:Int) (H:Heap):pcx (cbL tab) 36 [v,.int .i64 a,.int .i64 b] H=some (.plain (.bool (risM a b none l))):=by
 have hh:=hv.hf
 have hu:=hv.un
 obtain⟨s,tk,rfl,hs,htk⟩:=hv
 have e2:lend (.sl s l.length (encs i64A l) tk)= .sl s l.length (encs i64A l) tk:=hu
 refine pcx_N rfl (pc_wp (fi:=c36) rfl ?_ (by simp[c36]) (by decide) ?_)
 . simp only[pcOn,List.map_cons,List.map_nil,e2,lend_int,c36,hfL,hh,Bool.true_and];rfl
 unfold c36
 rw[List.map_cons,List.map_cons,List.map_cons,List.map_nil,e2,lend_int,lend_int]
 obtain⟨R,hR⟩:∃R,R=risM a b none l:=⟨_,rfl⟩
 rw[<-hR]
 simp(disch:=omega)only[wk,tupled,↓reduceIte,reduceEqDiff,reduceEq,reduceAdd,reduceCtorEq]
 refine loop_ind (fun(x:List Int×List Int) E df H=>l=x.1++x.2/\R=risM a b x.1.getLast? x.2/\E 0= .sl s l.length (encs i64A l) tk/\E 1= .int .i64 a/\E 2= .int .i64 b/\E 7= .int .i64 ((x.1.length:Nat):Int)/\df=[])
   (fun x=>x.2.length) ([],l) (by decide) (.inl rfl) ⟨rfl,hR,rfl,rfl,rfl,rfl,rfl⟩ ?_
 intro ⟨pre,suf⟩ E df H ih hP
 obtain⟨a1,a2,E0,E1,E2,E7,hdf⟩:=hP
 dsimp only at a1 a2 E7
 subst hdf
 have la:l.length=pre.length+suf.length:=by rw[a1,List.length_append]
 cases suf with
 | nil=>
   have n1:¬(pre.length:Int)<(l.length:Int):=by rw[la];simp
   have a2:R=true:=a2
   rw[a2]
   simp(disch:=omega)only[wk,tupled,↓reduceIte,reduceEqDiff,reduceEq,reduceAdd,reduceCtorEq,E0,E1,E2,E7,n1,purify,unownT,lend,unown,AV.hf,hfL]
 | cons x r=>
   rw[List.length_cons]at la
   have n1:(pre.length:Int)<(l.length:Int):=by omega
   obtain rfl:=hs (by rw[a1];simp)
   have d1:=i_drop pre x r
   rw[<-a1]at d1
   rw[risM_cons]at a2
   by_cases h1:a<=x
   case neg=>
     have h1':x<a:=by omega
     rw[decide_eq_false (fun h=>h1 h.1),Bool.false_and]at a2
     rw[a2]
     simp(disch:=omega)only[wk,tupled,↓reduceIte,reduceEqDiff,reduceEq,reduceAdd,reduceCtorEq,E0,E1,E2,E7,n1,d1,h1',runG_un,gp_un,purify,unownT,lend,unown,AV.hf,hfL]
   have h1':¬x<a:=by omega
   by_cases h2:x<b
   case neg=>
     have h2':b<=x:=by omega
     rw[decide_eq_false (fun h=>h2 h.2.1),Bool.false_and]at a2
     rw[a2]
     simp(disch:=omega)only[wk,tupled,↓reduceIte,reduceEqDiff,reduceEq,reduceAdd,reduceCtorEq,E0,E1,E2,E7,n1,d1,h1',h2',runG_un,gp_un,purify,unownT,lend,unown,AV.hf,hfL]
   have h2':¬b<=x:=by omega
   rcases List.eq_nil_or_concat pre with rfl|⟨p,z,rfl⟩
   . have n3:¬(0:Int)<0:=by omega
     rw[List.length_nil]at d1
     have E7:E 7= .int .i64 0:=E7
     have q2:(0:Int)<(l.length:Int):=n1
     rw[decide_eq_true ⟨h1,h2,fun y e=>by cases e⟩,Bool.true_and]at a2
     have d0:(encs i64A l)[0]? =some (.int .i64 x):=by
       have d1:encs i64A l= .int .i64 x::encs i64A r:=by rw[<-d1];rfl
       rw[d1];rfl
     simp(disch:=omega)only[wk,tupled,↓reduceIte,reduceEqDiff,reduceEq,reduceAdd,reduceCtorEq,E0,E1,E2,E7,q2,n3,d0,h1',h2',runG_un,gp_un,Int.reduceToNat,Int.reduceAdd,Int.reduceSub,Int.reduceMul,Int.reduceNeg,Nat.reduceSub,Nat.reduceDiv]
     exact ih ([]++[x],r) _ _ _ (by simp) ⟨by simp[a1],by show R=risM a b (some x) r;exact a2,by simp only[en,↓reduceIte,reduceEqDiff,E0],by simp only[en,↓reduceIte,reduceEqDiff,E1],by simp only[en,↓reduceIte,reduceEqDiff,E2],by simp only[en,↓reduceIte,reduceEqDiff];rfl,rfl⟩
   . simp only[List.concat_eq_append]at*
     have lp:(p++[z]).length=p.length+1:=by simp
     have d2:=i_drop p z (x::r)
     have a1':l=p++z::x::r:=by rw[a1];simp
     rw[<-a1']at d2
     rw[lp]at E7 n1 d1
     rw[lastI]at a2
     have n1:(p.length:Int)+1<(l.length:Int):=n1
     have E7:E 7= .int .i64 ((p.length:Int)+1):=E7
     have n3:(0:Int)<(p.length:Int)+1:=by omega
     have p1:(0:Int)<=(p.length:Int)+1:=by omega
     have tn:((p.length:Int)+1).toNat=p.length+1:=by omega
     have s1:(p.length:Int)+1-1=(p.length:Int):=by omega
     have n5:(p.length:Int)<(l.length:Int):=by omega
     by_cases h3:z<x
     . have h3':¬x<=z:=by omega
       rw[decide_eq_true ⟨h1,h2,fun y e=>by cases e;exact h3⟩,Bool.true_and]at a2
       simp(disch:=omega)only[wk,tupled,↓reduceIte,reduceEqDiff,reduceEq,reduceAdd,reduceCtorEq,E0,E1,E2,E7,n1,n3,p1,tn,d1,d2,s1,n5,h1',h2',h3',runG_un,gp_un,Int.reduceToNat,Int.reduceAdd,Int.reduceSub,Int.reduceMul,Int.reduceNeg,Nat.reduceSub,Nat.reduceDiv]
       exact ih (p++[z]++[x],r) _ _ _ (by simp) ⟨by simp[a1],by dsimp only;rw[lastI];exact a2,by simp only[en,↓reduceIte,reduceEqDiff,E0],by simp only[en,↓reduceIte,reduceEqDiff,E1],by simp only[en,↓reduceIte,reduceEqDiff,E2],by simp only[en,↓reduceIte,reduceEqDiff],rfl⟩
     . have h3':x<=z:=by omega
       rw[decide_eq_false (fun h=>h3 (h.2.2 z rfl)),Bool.false_and]at a2
       rw[a2]
       simp(disch:=omega)only[wk,tupled,↓reduceIte,reduceEqDiff,reduceEq,reduceAdd,reduceCtorEq,E0,E1,E2,E7,n1,n3,p1,tn,d1,d2,s1,n5,h1',h2',h3',runG_un,gp_un,Int.reduceToNat,Int.reduceAdd,Int.reduceSub,Int.reduceMul,Int.reduceNeg,Nat.reduceSub,Nat.reduceDiv,purify,unownT,lend,unown,AV.hf,hfL]
def okI (f:Frm) (bl rl:List Int):Bool:=risM (9+f.i/4+f.r/4+1) f.b none bl&&risM 1 (f.r+1) none rl
theorem rCheck_px {f:Frm} (hf:okF f) {rt:Tv} (h:RootT rt) {ns:List Int} (j:JV f rt.nm ns) {bl rl:List Int} {bv rv:AV} (hb:IntR bl bv) (hr:IntR rl rv) (lb:bl.length<=80) (lr:rl.length<=80) (H:Heap):
   pcx (cbL tab) 10 [.agg (imgC f (mkT rt ns) bv rv)] H=some (.plain (.int .i64 (if okI f bl rl=true then 0 else 2))):=by
 have hT:=mkT_ok h ns
 have hhT:=okT_hf hT
 have li:lend (.agg (imgC f (mkT rt ns) bv rv))= .agg (imgC f (mkT rt ns) bv rv):=by
   show AV.agg [_,_,_,_,_,_,_,_,_,_,_,unown bv,unown rv]=_
   rw[hb.un,hr.un];rfl
 refine pcx_N rfl (pc_wp (fi:=c10) rfl ?_ (by simp[c10]) (by decide) ?_)
 . simp only[pcOn,List.map_cons,List.map_nil,li,c10]
   simp[imgC,hfL,AV.hf,hhT,hb.hf,hr.hf,Tk.hf]
 unfold c10
 rw[List.map_cons,List.map_nil,li]
 have ro:=fun H=>rOf_pc hf h j H
 have r1:=fun a b H=>rising_px hb (by omega) a b H
 have r2:=fun a b H=>rising_px hr (by omega) a b H
 have o1:=hb.one
 have o2:=hr.one
 have wr:IntKind.i64.wrap (f.r+1)=f.r+1:=by obtain⟨_,_,_,_,_,x1,x2,_⟩:=hf;exact wrap_i64 (by omega) (by omega)
 generalize mkT rt ns=T at*
 unfold layA frmA at ro
 simp only[List.cons_append,List.nil_append]at ro
 rw[stC_ro]at ro
 unfold imgC okI
 cases h1:risM (9+f.i/4+f.r/4+1) f.b none bl<;>cases h2:risM 1 (f.r+1) none rl<;>simp(disch:=omega)only[wk,tupled,↓reduceIte,reduceEqDiff,reduceEq,reduceAdd,reduceCtorEq,ro,wr,r1,r2,h1,h2,o1,o2,runG_un,gp_un,Bool.and_self,Bool.and_false,Bool.false_and,Bool.and_true,purify,unownT,lend,unown,AV.hf,hfL]
theorem must_px (e:Int) (H:Heap):pcx (cbL tab) 105 [.bool true,.int .i64 e] H=some (.plain (.tup [])):=by
 refine pcx_N rfl (pc_wp (fi:=c105) rfl rfl (by simp[c105]) (by decide) ?_)
 unfold c105
 rw[List.map_cons,List.map_cons,List.map_nil,lend_bool,lend_int]
 simp(disch:=omega)only[wk,tupled,↓reduceIte,reduceEqDiff,reduceEq,reduceAdd,reduceCtorEq,purify,unownT,lend,unown,AV.hf,hfL]
def seenM (l:List Nm):List (AV×AV):=l.map fun y=>(.str (nmS y.i),.int .i64 1)
def lnkM (l:List Nm):List (AV×AV):=l.map fun y=>(.int .i64 y.n,.int .i64 1)
theorem nmS_beq {i j:Nat} (hi:i<30) (hj:j<30):(nmS i==nmS j)=decide (i=j):=by
 have h:=nmS_inj hi hj
 rw[<-h]
 rw[ByteArray.toList_eq,ByteArray.toList_eq]
 show(#[UInt8.ofNat (97+i)]== #[UInt8.ofNat (97+j)])=([UInt8.ofNat (97+i)]==[UInt8.ofNat (97+j)])
 simp
theorem find_seen {y:Nm} (hy:y.i<30):∀(l:List Nm) (k:Nat),(∀z∈l,z.i<30/\z.i≠y.i)->findA 2 (.str (nmS y.i)) (seenM l) k=some none
 |[],_,_=>rfl
 | z::r,k,h=>by
   obtain⟨h1,h2⟩:=h z (List.mem_cons_self ..)
   show(match cellEq 2 (.str (nmS y.i)) (.str (nmS z.i))with
     |some true=>_
     |some false=>findA 2 (.str (nmS y.i)) (seenM r) (k+1)
     |none=>none)=_
   have:cellEq 2 (.str (nmS y.i)) (.str (nmS z.i))=some false:=by
     show some (nmS y.i==nmS z.i)=_
     rw[nmS_beq hy h1,decide_eq_false fun e=>h2 e.symm]
   rw[this]
   exact find_seen hy r (k+1) fun w hw=>h w (List.mem_cons_of_mem _ hw)
theorem find_lnk {n:Int}:∀(l:List Nm) (k:Nat),(∀z∈l,z.n≠n)->findA 0 (.int .i64 n) (lnkM l) k=some none
 |[],_,_=>rfl
 | z::r,k,h=>by
   have h2:=h z (List.mem_cons_self ..)
   show(match cellEq 0 (.int .i64 n) (.int .i64 z.n)with
     |some true=>_
     |some false=>findA 0 (.int .i64 n) (lnkM r) (k+1)
     |none=>none)=_
   have:cellEq 0 (.int .i64 n) (.int .i64 z.n)=some false:=by
     show some (n==z.n)=_
     rw[show(n==z.n)=false by simpa using fun e:n=z.n=>h2 e.symm]
   rw[this]
   exact find_lnk r (k+1) fun w hw=>h w (List.mem_cons_of_mem _ hw)
theorem ceI (n:Int):cellEq 0 (.int .i64 n) (.int .i64 n)=some true:=by
 show some (n==n)=_
 rw[beq_self_eq_true]
theorem ceS (i:Nat) (hi:i<30):cellEq 2 (.str (nmS i)) (.str (nmS i))=some true:=by
 show some (nmS i==nmS i)=_
 rw[nmS_beq hi hi,decide_eq_true rfl]
structure NmM (f:Frm) (es:List (AV×AV)) (l:List Nm):Prop where
 i30:∀y∈l,y.i<30
 idx:(l.map (·.i)).Nodup
 key:l.Pairwise fun a b=>a.k<b.k
 sum:∀y∈l,0<=y.k/\y.k<1208925819614629174706175/\y.k/65536=((sumP y.i f.t.toNat:Nat):Int)
 ino:(l.map (·.n)).Nodup
 at_:∀y∈l,∃k cs,findA 0 (.int .i64 y.n) es 0=some (some (k,.agg cs))/\cs.length=7/\allOne cs=true
 few:l.length<=1000
structure NmG (H G:Heap) (lk:Nat) (done:List Nm):Prop where
 len:G.length=H.length+1+2*done.length
 links:G[lk]? =some (.map (lnkM done))
 seen:G[H.length]? =some (.map (seenM done))
 old:∀i,i<H.length->i≠lk->G[i]? =H[i]?
theorem key_u64 {k:Int} {f:Frm} (hf:okF f) {i:Nat} (h0:0<=k) (h:k/65536=((sumP i f.t.toNat:Nat):Int)):U64 k:=by
 have:=sumP_lt i (b:=f.t.toNat) (by have:=hf.2.2.2.2.2.2.2.2.2.1;omega)
 exact⟨h0,by omega⟩
theorem names_ic {f:Frm} (hf:okF f) {l:List Nm} {es:List (AV×AV)} (N:NmM f es l) {v:AV} (hv:IsR 3 l.length (encs nmC l) v) {H:Heap} {mo mm lk:Nat} (h1:H[mo]? =some (.cells (layA f 5 6++[.mp mm]))) (h2:H[mm]? =some (.map es)) (h3:H[lk]? =some (.map [])) (hne:lk≠mm):
   ∃G,(cbL tab).ic 136 [.ptr mo 0,v,.mp lk] H=some (.ret (.tup []),G)/\NmG H G lk l:=by
 obtain⟨i30,idx,key,sum,ino,at_,few⟩:=N
 obtain⟨s,tk,rfl,hs,htk⟩:=hv
 have:=ic_wp (tab:=tab) (f:=136) (fi:=c136) (args:=[.ptr mo 0,.sl s l.length (encs nmC l) tk,.mp lk]) (H:=H) (P:=fun o G=>o= .ret (.tup [])/\NmG H G lk l) rfl rfl (by simp[c136]) (by decide) ?_
 . obtain⟨o,G,e1,rfl,e2⟩:=this
   exact⟨G,e1,e2⟩
 unfold c136
 have hmo:mo<H.length:=(List.getElem?_eq_some_iff.1 h1).1
 have hmm:mm<H.length:=(List.getElem?_eq_some_iff.1 h2).1
 have hlk:lk<H.length:=(List.getElem?_eq_some_iff.1 h3).1
 have hml:mo≠lk:=fun e=>by rw[e,h3]at h1;cases h1
 simp(disch:=omega)only[wk,tupled,↓reduceIte,reduceEqDiff,reduceEq,reduceAdd,reduceCtorEq]
 refine loop_ind (fun(x:List Nm×List Nm) E df G=>l=x.1++x.2/\E 0= .ptr mo 0/\E 1= .sl s l.length (encs nmC l) tk/\E 2= .mp lk/\E 6= .mp H.length/\E 16= .sl s l.length (encs nmC l) tk/\E 17= .int .i64 ((l.length:Nat):Int)/\E 18= .int .i64 ((x.1.length:Nat):Int)/\df=[]/\NmG H G lk x.1)
   (fun x=>x.2.length) ([],l) (by decide) (.inl rfl) ⟨rfl,rfl,rfl,rfl,rfl,rfl,rfl,rfl,rfl,⟨by simp,by rw[List.getElem?_append_left hlk];exact h3,by simp[seenM],fun i hi _=>List.getElem?_append_left hi⟩⟩ ?_
 intro ⟨pre,suf⟩ E df G ih hP
 obtain⟨a1,E0,E1,E2,E6,E16,E17,E18,hdf,g1,g2,g3,g4⟩:=hP
 dsimp only at a1 E18 g1 g2 g3
 subst hdf
 have la:l.length=pre.length+suf.length:=by rw[a1,List.length_append]
 cases suf with
 | nil=>
   have n1:¬(pre.length:Int)<(l.length:Int):=by rw[la];simp
   have ep:pre=l:=by rw[a1];simp
   simp(disch:=omega)only[wk,tupled,↓reduceIte,reduceEqDiff,reduceEq,reduceAdd,reduceCtorEq,E0,E1,E2,E6,E16,E17,E18,n1]
   have:NmG H G lk l:=ep▸⟨g1,g2,g3,g4⟩
   exact this
 | cons y r=>
   rw[List.length_cons]at la
   have n1:(pre.length:Int)<(l.length:Int):=by omega
   obtain rfl:=hs (by omega)
   have d1:=nm_drop pre y r
   rw[<-a1]at d1
   have ym:y∈l:=by rw[a1];simp
   have yi:=i30 y ym
   obtain⟨k0,k2,k1⟩:=sum y ym
   have ku:=key_u64 hf k0 k1
   have sp:=fun H=>rsum_px hf yi H
   have rp:=fun H=>rsplit_px ku H
   rw[k1]at rp
   obtain⟨kk,cs,q1,q2,q3⟩:=at_ y ym
   have pm:∀z∈pre,z∈l:=fun z hz=>by rw[a1];simp[hz]
   have fs:=find_seen yi pre 0 fun z hz=>⟨i30 z (pm z hz),fun e=>by
     rw[a1,List.map_append,List.map_cons,List.nodup_append]at idx
     exact idx.2.2 z.i (List.mem_map.2 ⟨z,hz,rfl⟩) y.i (List.mem_cons_self ..) e⟩
   have fl:=find_lnk (n:=y.n) pre 0 fun z hz e=>by
     rw[a1,List.map_append,List.map_cons,List.nodup_append]at ino
     exact ino.2.2 z.n (List.mem_map.2 ⟨z,hz,rfl⟩) y.n (List.mem_cons_self ..) e
   have cI:=ceI y.n
   have cS:=ceS y.i yi
   have mu:=fun H=>must_px 289 H
   have gm:∀L:List AObj,(G++L)[mo]? =some (.cells (layA f 5 6++[.mp mm])):=fun L=>by rw[List.getElem?_append_left (by omega),g4 mo hmo hml];exact h1
   have gmm:∀L:List AObj,(G++L)[mm]? =some (.map es):=fun L=>by rw[List.getElem?_append_left (by omega),g4 mm hmm (Ne.symm hne)];exact h2
   have gs:∀L:List AObj,(G++L)[H.length]? =some (.map (seenM pre)):=fun L=>by rw[List.getElem?_append_left (by omega)];exact g3
   have s1:∀(x:AObj) (L:List AObj),(G++L).set H.length x=G.set H.length x++L:=fun x L=>List.set_append_left _ _ (by omega)
   have gl:∀(x:AObj) (L:List AObj),(G.set H.length x++L)[lk]? =some (.map (lnkM pre)):=fun x L=>by rw[List.getElem?_append_left (by rw[List.length_set];omega),List.getElem?_set_ne (by omega)];exact g2
   have s2:∀(x z:AObj) (L:List AObj),(G.set H.length x++L).set lk z=(G.set H.length x).set lk z++L:=fun x z L=>List.set_append_left _ _ (by rw[List.length_set];omega)
   have g0:∀L:List AObj,(G++L)[G.length]? =L[0]? :=fun L=>by rw[List.getElem?_append_right (Nat.le_refl _),Nat.sub_self]
   have g01:∀L:List AObj,(G++L)[G.length+1]? =L[1]? :=fun L=>by rw[List.getElem?_append_right (by omega),show G.length+1-G.length=1 by omega]
   have t0:∀(L:List AObj) (o:AObj),(G++L).set G.length o=G++L.set 0 o:=fun L o=>by rw[List.set_append_right _ _ (Nat.le_refl _),Nat.sub_self]
   have t1:∀(L:List AObj) (o:AObj),(G++L).set (G.length+1) o=G++L.set 1 o:=fun L o=>by rw[List.set_append_right _ _ (by omega),show G.length+1-G.length=1 by omega]
   unfold layA frmA at gm sp
   simp only[List.cons_append,List.nil_append]at gm sp
   generalize sumP y.i f.t.toNat=q at sp rp
   have g0':∀(x:AObj) (L:List AObj),(G.set H.length x++L)[G.length]? =L[0]? :=fun x L=>by rw[List.getElem?_append_right (by rw[List.length_set];exact Nat.le_refl _),List.length_set,Nat.sub_self]
   have fin:∀(c d:AObj),NmG H ((G.set H.length (.map (seenM pre++[(.str (nmS y.i),.int .i64 1)]))).set lk (.map (lnkM pre++[(.int .i64 y.n,.int .i64 1)]))++[c,d]) lk (pre++[y]):=fun c d=>by
     refine⟨by simp;omega, ?_, ?_,fun i hi hn=> ?_⟩
     . rw[List.getElem?_append_left (by rw[List.length_set,List.length_set];omega),List.getElem?_set_self (by rw[List.length_set];omega)]
       simp[lnkM]
     . rw[List.getElem?_append_left (by rw[List.length_set,List.length_set];omega),List.getElem?_set_ne (by omega),List.getElem?_set_self (by omega)]
       simp[seenM]
     . rw[List.getElem?_append_left (by rw[List.length_set,List.length_set];omega),List.getElem?_set_ne (Ne.symm hn),List.getElem?_set_ne (by omega)]
       exact g4 i hi hn
   generalize nmS y.i=nm at*
   rcases List.eq_nil_or_concat pre with rfl|⟨p,z,rfl⟩
   . rw[List.length_nil,Nat.zero_mul]at d1
     have E18:E 18= .int .i64 0:=E18
     have n1:(0:Int)<(l.length:Int):=n1
     simp(disch:=omega)only[wk,tupled,↓reduceIte,reduceEqDiff,reduceEq,reduceAdd,reduceCtorEq,E0,E1,E2,E6,E16,E17,E18,n1,d1,gm,gmm,gs,s1,gl,s2,g0,g0',g01,t0,t1,sp,rp,q1,q2,q3,Nat.le_refl,fs,fl,cI,cS,mu,Int.reduceToNat,Int.reduceAdd,Int.reduceSub,Int.reduceMul,Int.reduceNeg,Nat.reduceSub,Nat.reduceDiv,List.append_assoc,List.append_nil,runG_un,gp_un]
     exact ih ([]++[y],r) _ _ _ (by simp) ⟨by simp[a1],by simp only[en,↓reduceIte,reduceEqDiff,E0],by simp only[en,↓reduceIte,reduceEqDiff,E1],by simp only[en,↓reduceIte,reduceEqDiff,E2],by simp only[en,↓reduceIte,reduceEqDiff,E6],by simp only[en,↓reduceIte,reduceEqDiff,E16],by simp only[en,↓reduceIte,reduceEqDiff,E17],by simp only[en,↓reduceIte,reduceEqDiff];rfl,rfl,fin _ _⟩
   . simp only[List.concat_eq_append]at*
     have lp:(p++[z]).length=p.length+1:=by simp
     have d2:=nm_drop p z (y::r)
     have a1':l=p++z::y::r:=by rw[a1];simp
     rw[<-a1']at d2
     have zt:z.k<y.k:=by
       rw[a1']at key
       exact(List.pairwise_cons.1 (List.pairwise_append.1 key).2.1).1 y (List.mem_cons_self ..)
     rw[lp]at E18 n1 d1
     have n1:(p.length:Int)+1<(l.length:Int):=n1
     have E18:E 18= .int .i64 ((p.length:Int)+1):=E18
     have n3:¬(p.length:Int)+1=0:=by omega
     have p1:(0:Int)<=(p.length:Int)+1:=by omega
     have tn:((p.length:Int)+1).toNat=p.length+1:=by omega
     have sq1:(p.length:Int)+1-1=(p.length:Int):=by omega
     have n5:(p.length:Int)<(l.length:Int):=by omega
     simp(disch:=omega)only[wk,tupled,↓reduceIte,reduceEqDiff,reduceEq,reduceAdd,reduceCtorEq,E0,E1,E2,E6,E16,E17,E18,n1,n3,p1,tn,sq1,n5,zt,d1,d2,gm,gmm,gs,s1,gl,s2,g0,g0',g01,t0,t1,sp,rp,q1,q2,q3,Nat.le_refl,fs,fl,cI,cS,mu,Int.reduceToNat,Int.reduceAdd,Int.reduceSub,Int.reduceMul,Int.reduceNeg,Nat.reduceSub,Nat.reduceDiv,List.append_assoc,List.append_nil,runG_un,gp_un]
     exact ih (p++[z]++[y],r) _ _ _ (by simp) ⟨by simp[a1],by simp only[en,↓reduceIte,reduceEqDiff,E0],by simp only[en,↓reduceIte,reduceEqDiff,E1],by simp only[en,↓reduceIte,reduceEqDiff,E2],by simp only[en,↓reduceIte,reduceEqDiff,E6],by simp only[en,↓reduceIte,reduceEqDiff,E16],by simp only[en,↓reduceIte,reduceEqDiff,E17],by simp only[en,↓reduceIte,reduceEqDiff],rfl,fin _ _⟩
noncomputable abbrev rcd0:Code:=Tryz.f110.code
def opAt (l:List Oper) (k:Nat):Oper:=(l[k]?).getD ⟨none,.move (.tmp 0),0,"",#[],none⟩
noncomputable def rngB:MRng Tryz.prog (rcd0.sub [1,0]) rb1 (.t 14) 15 16 17 18 rb3 1 rbd where
 i1:=1
 i2:=2
 i3:=3
 out:=0
 ops1:=(rcd0.sub [1,0,0]).opsOf
 ops2:=(rcd0.sub [1,0,1,0,0,0]).opsOf
 ops3:=(rcd0.sub [1,0,1,0,0,1,1,0,0]).opsOf
 o1:=opAt (rcd0.sub [1,0,0]).opsOf.toList 4
 o2:=opAt (rcd0.sub [1,0,1,0,0,0]).opsOf.toList 0
 o3:=opAt (rcd0.sub [1,0,1,0,0,1,1,0,0]).opsOf.toList 0
 l2:=(rcd0.sub [1,0,1,0,0,0]).opsOf.toList.tail
 l3:=(rcd0.sub [1,0,1,0,0,1,1,0,0]).opsOf.toList.tail
 bd:=rcd0.sub [1,0,1,0,0,1,1,0,1]
 t:=174
 kt:=3
 et:=91
 x:= .tmp 14
 hc:=by kernel_rfl
 a1:=by kernel_rfl
 a2:=rb1_ok
 a3:=by kernel_rfl
 a4:=by kernel_rfl
 a5:=by kernel_rfl
 a6:=by kernel_rfl
 a7:=Tryz.underlying174
 b1:=by kernel_rfl
 b2:=by kernel_rfl
 b3:=by kernel_rfl
 b4:=by kernel_rfl
 b5:=by kernel_rfl
 c1:=by kernel_rfl
 c2:=rb3_ok
 c3:=by kernel_rfl
 c4:=by kernel_rfl
 c5:=by kernel_rfl
 c6:=rbd_ok
noncomputable def rngC:MRng Tryz.prog (rcd0.sub [1,1,1]) rc1 (.t 42) 43 44 45 46 rc3 3 rcd where
 i1:=7
 i2:=8
 i3:=9
 out:=2
 ops1:=(rcd0.sub [1,1,1,0]).opsOf
 ops2:=(rcd0.sub [1,1,1,1,0,0,0]).opsOf
 ops3:=(rcd0.sub [1,1,1,1,0,0,1,1,0,0]).opsOf
 o1:=opAt (rcd0.sub [1,1,1,0]).opsOf.toList 4
 o2:=opAt (rcd0.sub [1,1,1,1,0,0,0]).opsOf.toList 0
 o3:=opAt (rcd0.sub [1,1,1,1,0,0,1,1,0,0]).opsOf.toList 0
 l2:=(rcd0.sub [1,1,1,1,0,0,0]).opsOf.toList.tail
 l3:=(rcd0.sub [1,1,1,1,0,0,1,1,0,0]).opsOf.toList.tail
 bd:=rcd0.sub [1,1,1,1,0,0,1,1,0,1]
 t:=174
 kt:=3
 et:=91
 x:= .tmp 42
 hc:=by kernel_rfl
 a1:=by kernel_rfl
 a2:=rc1_ok
 a3:=by kernel_rfl
 a4:=by kernel_rfl
 a5:=by kernel_rfl
 a6:=by kernel_rfl
 a7:=Tryz.underlying174
 b1:=by kernel_rfl
 b2:=by kernel_rfl
 b3:=by kernel_rfl
 b4:=by kernel_rfl
 b5:=by kernel_rfl
 c1:=by kernel_rfl
 c2:=rc3_ok
 c3:=by kernel_rfl
 c4:=by kernel_rfl
 c5:=by kernel_rfl
 c6:=rcd_ok
theorem code110:Tryz.f110.body=some (.seq (rcd0.sub [0]) (.seq (rcd0.sub [1,0]) (.seq (rcd0.sub [1,1,0]) (rcd0.sub [1,1,1])))):=by kernel_rfl
structure ModT (f:Frm) (T:List Tv) (r:Tv) (F:List Tv):Prop where
 e:T=r::F
 n:r.n=1
 k:r.k=2
 l:r.l=1
 p:r.p=1
 ok:okT T
 fk:∀t∈F,t.k=1/\t.l=1/\t.nm=[]
 j:JV f r.nm (F.map (·.n))
def esM (T:List Tv):List (AV×AV):=T.map fun t=>(.int .i64 t.n,.agg (tvC t))
def RightCond (args:List AV) (H:Heap) (k:Nat):Prop:=∃f T r F mo mm k0 k1,okF f/\ModT f T r F/\(r.nm=[]∨k0=5/\k1=6)/\args=[.ptr mo 0]/\H[mo]? =some (.cells (layA f k0 k1++[.mp mm]))/\H[mm]? =some (.map (esM T))/\k=3+4*T.length+2*r.nm.length
open Classical in
noncomputable def rightC (args:List AV) (H:Heap):Option (Out×Heap):=
 if h:∃k,RightCond args H k then some (.ret (.tup []),H++List.replicate h.choose .dead)else none
theorem esM_get {T:List Tv} {i:Nat} {k v:AV} (h:(esM T)[i]? =some (k,v)):∃t,T[i]? =some t/\k= .int .i64 t.n/\v= .agg (tvC t):=by
 unfold esM at h
 rw[List.getElem?_map]at h
 obtain⟨t,ht,e⟩:=Option.map_eq_some_iff.1 h
 cases e
 exact⟨t,ht,rfl,rfl⟩
theorem find_es {n:Int}:∀(T:List Tv) (k:Nat),(∃t∈T,t.n=n)->∃i t,t∈T/\t.n=n/\findA 0 (.int .i64 n) (esM T) k=some (some (i,.agg (tvC t)))
 |[],_,h=>by obtain⟨t,ht,_⟩:=h;cases ht
 | t::r,k,h=>by
   have e:findA 0 (.int .i64 n) (esM (t::r)) k=(match cellEq 0 (.int .i64 n) (.int .i64 t.n)with
     |some true=>some (some (k,.agg (tvC t)))
     |some false=>findA 0 (.int .i64 n) (esM r) (k+1)
     |none=>none):=rfl
   by_cases hn:t.n=n
   . refine⟨k,t,List.mem_cons_self ..,hn, ?_⟩
     rw[e,hn,ceI]
   . have:cellEq 0 (.int .i64 n) (.int .i64 t.n)=some false:=by
       show some (n==t.n)=_
       rw[show(n==t.n)=false by simpa using fun e:n=t.n=>hn e.symm]
     rw[e,this]
     obtain⟨u,hu,un⟩:=h
     rcases List.mem_cons.1 hu with rfl|hu
     . exact absurd un hn
     . obtain⟨i,w,h1,h2,h3⟩:=find_es r (k+1) ⟨u,hu,un⟩
       exact⟨i,w,List.mem_cons_of_mem _ h1,h2,h3⟩
theorem ModT.nmM {f:Frm} {T:List Tv} {r:Tv} {F:List Tv} (M:ModT f T r F):NmM f (esM T) r.nm:=by
 obtain⟨e,_,_,_,_,ok,_,j⟩:=M
 refine⟨j.i30,j.idx,j.key,j.sum, ?_,fun y hy=> ?_,by have:=j.few;omega⟩
 . exact(j.perm.nodup_iff).2 (j.sort.imp fun h e=>by omega)
 . have hm:y.n∈F.map (·.n):=j.perm.mem_iff.1 (List.mem_map.2 ⟨y,hy,rfl⟩)
   obtain⟨t,ht,tn⟩:=List.mem_map.1 hm
   obtain⟨i,w,h1,_,h3⟩:=find_es (n:=y.n) T 0 ⟨t,by rw[e];exact List.mem_cons_of_mem _ ht,tn⟩
   exact⟨i,_,h3,rfl,tvC_one (ok w h1)⟩
theorem names_ic0 {v:AV} (hv:IsR 3 0 [] v) {H:Heap} {mo lk:Nat}:
   (cbL tab).ic 136 [.ptr mo 0,v,.mp lk] H=some (.ret (.tup []),H++[.map []]):=by
 obtain⟨s,tk,rfl,hs,htk⟩:=hv
 have:=ic_wp (tab:=tab) (f:=136) (fi:=c136) (args:=[.ptr mo 0,.sl s 0 [] tk,.mp lk]) (H:=H) (P:=fun o G=>o= .ret (.tup [])/\G=H++[.map []]) rfl rfl (by simp[c136]) (by decide) ?_
 . obtain⟨o,G,e1,rfl,rfl⟩:=this
   exact e1
 unfold c136
 have n1:¬((0:Nat):Int)<((0:Nat):Int):=by omega
 simp(disch:=omega)only[wk,tupled,↓reduceIte,reduceEqDiff,reduceEq,reduceAdd,reduceCtorEq]
 rw[ret_loop]
 simp(disch:=omega)only[wk,tupled,↓reduceIte,reduceEqDiff,reduceEq,reduceAdd,reduceCtorEq,n1]
theorem names_any {f:Frm} (hf:okF f) {l:List Nm} {es:List (AV×AV)} (N:NmM f es l) {v:AV} (hv:IsR 3 l.length (encs nmC l) v) {H:Heap} {mo mm lk:Nat} {k0 k1:Int} (hk:l=[]∨k0=5/\k1=6) (h1:H[mo]? =some (.cells (layA f k0 k1++[.mp mm]))) (h2:H[mm]? =some (.map es)) (h3:H[lk]? =some (.map [])) (hne:lk≠mm):
   ∃G,(cbL tab).ic 136 [.ptr mo 0,v,.mp lk] H=some (.ret (.tup []),G)/\NmG H G lk l:=by
 rcases hk with rfl|⟨rfl,rfl⟩
 . refine⟨_,names_ic0 hv,by simp, ?_, ?_,fun i hi _=>List.getElem?_append_left hi⟩
   . rw[List.getElem?_append_left (List.getElem?_eq_some_iff.1 h3).1];exact h3
   . rw[List.getElem?_append_right (Nat.le_refl _),Nat.sub_self];rfl
 . exact names_ic hf N hv h1 h2 h3 hne
def costM (r:Tv) (vis:List Nat):Nat:=2*vis.length+(if 0∈vis then 2*r.nm.length else 0)
theorem vis_all {n:Nat} {vis:List Nat} (h1:vis.Nodup) (h2:∀i∈vis,i<n) (h3:∀i,i<n->i∈vis):vis.length=n:=by
 have:vis.Perm (List.range n):=(List.perm_ext_iff_of_nodup h1 List.nodup_range).2 fun i=>by rw[List.mem_range];exact⟨h2 i,h3 i⟩
 rw[this.length_eq,List.length_range]
structure A1 (H:Heap) (mo:Nat) (T:List Tv) (r:Tv) (vis:List Nat) (E:Env) (G:Heap):Prop where
 e0:E 0= .ptr mo 0
 e2:E 2= .mp H.length
 e3:E 3= .int .i64 (if 0∈vis then((r.nm.length:Nat):Int)else 0)
 e15:E 15= .ptr (H.length+1) 0
 raw:∃o,G[H.length+1]? =some (.raw o)
 lnk:G[H.length]? =some (.map (if 0∈vis then lnkM r.nm else []))
 old:∀i,i<H.length->G[i]? =H[i]?
 len:G.length=H.length+2+costM r vis
 nd:vis.Nodup
 lt:∀i∈vis,i<T.length
theorem loop1 {f:Frm} (hf:okF f) {T:List Tv} {r:Tv} {F:List Tv} (M:ModT f T r F) {H:Heap} {mo mm:Nat} {k0 k1:Int} (hk:r.nm=[]∨k0=5/\k1=6) (h1:H[mo]? =some (.cells (layA f k0 k1++[.mp mm]))) (h2:H[mm]? =some (.map (esM T)))
   {vis:List Nat} {E:Env} {G:Heap} {i:Nat} {k v:AV} (o:Obj) (hA:A1 H mo T r vis E G) (hi:i∉vis) (hkv:(esM T)[i]? =some (k,v)):
   Ret (cbL tab) none 112 (fun e E' df' H'=>(e= .normal∨e= .exit 1)/\df'=[]/\H'[(H++[AObj.map []]).length]? =some (.raw o)/\A1 H mo T r (i::vis) E' H') [.code (.seq (.region rb3) rbd)] .normal (upd (upd (upd E 16 (.tup [.bool true,k,v])) 17 (.bool true)) 18 (.tup [k,v])) [] (G.set (H++[AObj.map []]).length (.raw o)):=by
 obtain⟨t,ht,rfl,rfl⟩:=esM_get hkv
 obtain⟨e0,e2,e3,e15,⟨o1,raw⟩,lnk,old,len,nd,lt⟩:=hA
 have hit:i<T.length:=(List.getElem?_eq_some_iff.1 ht).1
 have hmo:mo<H.length:=(List.getElem?_eq_some_iff.1 h1).1
 have hmm:mm<H.length:=(List.getElem?_eq_some_iff.1 h2).1
 have hl1:(H++[AObj.map []]).length=H.length+1:=by simp
 rw[hl1]
 have tok:t.ok:=M.ok t (List.mem_of_getElem? ht)
 obtain⟨G1,hG1⟩:∃G1,G1=G.set (H.length+1) (.raw o):=⟨_,rfl⟩
 have len1:G1.length=H.length+2+costM r vis:=by rw[hG1,List.length_set,len]
 have raw1:G1[H.length+1]? =some (.raw o):=by rw[hG1,List.getElem?_set_self (by omega)]
 have lnk1:G1[H.length]? =some (.map (if 0∈vis then lnkM r.nm else [])):=by rw[hG1,List.getElem?_set_ne (by omega)];exact lnk
 have old1:∀i,i<H.length->G1[i]? =H[i]? :=fun i hi=>by rw[hG1,List.getElem?_set_ne (by omega)];exact old i hi
 rw[<-hG1]
 have o1:=tok.b.one
 have o2:=tok.n.one
 have g0:∀L:List AObj,(G1++L)[G1.length]? =L[0]? :=fun L=>by rw[List.getElem?_append_right (Nat.le_refl _),Nat.sub_self]
 have t0:∀(L:List AObj) (o:AObj),(G1++L).set G1.length o=G1++L.set 0 o:=fun L o=>by rw[List.set_append_right _ _ (Nat.le_refl _),Nat.sub_self]
 have ut:tvC t=[.int .i64 t.n,.int .i64 t.k,.int .i64 t.l,t.bv,.int .i64 t.p,t.nv,.str (ByteArray.mk (Array.mk []))]:=rfl
 rw[ut]
 unfold rb3 rbd
 obtain⟨s,tk,hnv,hs,htk⟩:=tok.n
 have inm:∀(a:List AV) (H:Heap),hfL (a.map lend)=false->True:=fun _ _ _=>trivial
 have pn:∀(v:AV) (q:Nat) (H:Heap),pcx (cbL tab) 136 [.ptr mo 0,v,.mp q] H=none:=fun v q H=>pcx_none rfl (pc_none (fi:=c136) rfl rfl)
 have ll:(cbL tab).lent 136=false:=rfl
 cases i with
 | zero=>
   have e:t=r:=by rw[M.e]at ht;cases ht;rfl
   subst e
   rw[if_neg hi]at e3 lnk1
   have c0:costM t vis=2*vis.length:=by unfold costM;rw[if_neg hi];rfl
   obtain⟨G2,n1,n2⟩:=names_any hf M.nmM tok.n hk (H:=G1++[.cells (tvC t)]) (mo:=mo) (mm:=mm) (lk:=H.length) (by rw[List.getElem?_append_left (by omega),old1 mo hmo];exact h1) (by rw[List.getElem?_append_left (by omega),old1 mm hmm];exact h2) (by rw[List.getElem?_append_left (by omega)];exact lnk1) (by omega)
   rw[ut,hnv]at n1
   obtain⟨m1,m2,m3,m4⟩:=n2
   have gt:G2[G1.length]? =some (.cells (tvC t)):=by rw[m4 _ (by simp) (by omega),List.getElem?_append_right (Nat.le_refl _),Nat.sub_self];rfl
   rw[ut,hnv]at gt
   have z0:(0:Int)+((t.nm.length:Nat):Int)=((t.nm.length:Nat):Int):=by omega
   simp(disch:=omega)only[wk,tupled,↓reduceIte,reduceEqDiff,reduceEq,reduceAdd,reduceCtorEq,e0,e2,e3,e15,o1,o2,hnv,g0,t0,pn,runE_none ll,n1,gt,z0,Int.reduceToNat,Int.reduceAdd,Int.reduceSub,Int.reduceMul,Int.reduceNeg,Nat.reduceSub,Nat.reduceDiv]
   refine⟨.inl trivial, ?_,⟨by simp only[en,↓reduceIte,reduceEqDiff,e0],by simp only[en,↓reduceIte,reduceEqDiff,e2], ?_,by simp only[en,↓reduceIte,reduceEqDiff,e15], ?_, ?_, ?_, ?_, ?_, ?_⟩⟩
   . rw[m4 _ (by simp;omega) (by omega),List.getElem?_append_left (by omega)];exact raw1
   . rw[if_pos (List.mem_cons_self ..)];simp only[en,↓reduceIte,reduceEqDiff];rw[wrap_i64 (by omega) (by have:=tok.few;omega)]
   . exact⟨o,by rw[m4 _ (by simp;omega) (by omega),List.getElem?_append_left (by omega)];exact raw1⟩
   . rw[if_pos (List.mem_cons_self ..)];exact m2
   . intro j hj
     rw[m4 _ (by simp;omega) (by omega),List.getElem?_append_left (by omega)];exact old1 j hj
   . rw[m1]
     unfold costM
     rw[if_pos (List.mem_cons_self ..)]
     simp
     omega
   . exact List.nodup_cons.2 ⟨hi,nd⟩
   . intro j hj
     rcases List.mem_cons.1 hj with rfl|hj
     . exact hit
     . exact lt j hj
 | succ i=>
   have tF:t∈F:=by
     rw[M.e,List.getElem?_cons_succ]at ht
     exact List.mem_of_getElem? ht
   obtain⟨k1,k2,k3⟩:=M.fk t tF
   have hn0:t.nm.length=0:=by rw[k3];rfl
   have n0:=tok.n
   rw[hn0,k3]at n0
   have hnv':t.nv= .sl s 0 [] tk:=by rw[hnv,k3];rfl
   have n1:=fun(H':Heap) (lk:Nat)=>names_ic0 (v:=t.nv) n0 (H:=H') (mo:=mo) (lk:=lk)
   rw[hnv']at n1
   have hm:∀{α:Type} (x y:α),(if 0∈(i+1)::vis then x else y)=(if 0∈vis then x else y):=fun x y=>by simp
   have g02:∀L:List AObj,(G1++L)[G1.length+1]? =L[1]? :=fun L=>by rw[List.getElem?_append_right (by omega),show G1.length+1-G1.length=1 by omega]
   have z0:∀q:Int,q+((0:Nat):Int)=q:=fun q=>by omega
   generalize hq:(if 0∈vis then((r.nm.length:Nat):Int)else 0)=q at*
   simp(disch:=omega)only[wk,tupled,↓reduceIte,reduceEqDiff,reduceEq,reduceAdd,reduceCtorEq,e0,e2,e3,e15,o1,o2,hnv',g0,g02,t0,pn,runE_none ll,n1,z0,Int.add_zero,List.append_assoc,Int.reduceToNat,Int.reduceAdd,Int.reduceSub,Int.reduceMul,Int.reduceNeg,Nat.reduceSub,Nat.reduceDiv]
   refine⟨.inl trivial, ?_,⟨by simp only[en,↓reduceIte,reduceEqDiff,e0],by simp only[en,↓reduceIte,reduceEqDiff,e2], ?_,by simp only[en,↓reduceIte,reduceEqDiff,e15], ?_, ?_, ?_, ?_, ?_, ?_⟩⟩
   . rw[List.getElem?_append_left (by omega)];exact raw1
   . rw[hm,hq]
     have:=M.j.few
     have hq':0<=q/\q<1000000:=by rw[<-hq];split<;>omega
     simp only[en,↓reduceIte,reduceEqDiff]
     rw[wrap_i64 (by omega) (by omega)]
   . exact⟨o,by rw[List.getElem?_append_left (by omega)];exact raw1⟩
   . rw[List.getElem?_append_left (by omega),hm];exact lnk1
   . intro j hj
     rw[List.getElem?_append_left (by omega)];exact old1 j hj
   . rw[List.length_append,len1]
     unfold costM
     rw[hm]
     simp
     omega
   . exact List.nodup_cons.2 ⟨hi,nd⟩
   . intro j hj
     rcases List.mem_cons.1 hj with rfl|hj
     . exact hit
     . exact lt j hj
theorem min_px (n lo hi:Int) (H:Heap):pcx (cbL tab) 108 [.int .i64 n,.int .i64 lo,.int .i64 hi] H=some (.plain (.bool (decide (lo<=n/\n<=hi)))):=by
 refine pcx_N rfl (pc_wp (fi:=c108) rfl rfl (by simp[c108]) (by decide) ?_)
 unfold c108
 rw[List.map_cons,List.map_cons,List.map_cons,List.map_nil,lend_int,lend_int,lend_int]
 by_cases h1:lo<=n<;>by_cases h2:n<=hi<;>simp(disch:=omega)only[wk,tupled,↓reduceIte,reduceEqDiff,reduceEq,reduceAdd,reduceCtorEq,h1,h2,purify,unownT,lend,unown,AV.hf,and_false,false_and]
theorem find_lnk1 {n:Int}:∀(l:List Nm) (k:Nat),(∃z∈l,z.n=n)->∃i,findA 0 (.int .i64 n) (lnkM l) k=some (some (i,.int .i64 1))
 |[],_,h=>by obtain⟨z,hz,_⟩:=h;cases hz
 | z::r,k,h=>by
   have e:findA 0 (.int .i64 n) (lnkM (z::r)) k=(match cellEq 0 (.int .i64 n) (.int .i64 z.n)with
     |some true=>some (some (k,.int .i64 1))
     |some false=>findA 0 (.int .i64 n) (lnkM r) (k+1)
     |none=>none):=rfl
   by_cases hn:z.n=n
   . exact⟨k,by rw[e,hn,ceI]⟩
   . have:cellEq 0 (.int .i64 n) (.int .i64 z.n)=some false:=by
       show some (n==z.n)=_
       rw[show(n==z.n)=false by simpa using fun e:n=z.n=>hn e.symm]
     rw[e,this]
     obtain⟨u,hu,un⟩:=h
     rcases List.mem_cons.1 hu with rfl|hu
     . exact absurd un hn
     . exact find_lnk1 r (k+1) ⟨u,hu,un⟩
structure A2 (H:Heap) (mo it:Nat) (T:List Tv) (r:Tv) (vis:List Nat) (E:Env) (G:Heap):Prop where
 e0:E 0= .ptr mo 0
 e2:E 2= .mp H.length
 e43:E 43= .ptr it 0
 raw:∃o,G[it]? =some (.raw o)
 lnk:G[H.length]? =some (.map (lnkM r.nm))
 old:∀i,i<H.length->G[i]? =H[i]?
 len:G.length=it+1+2*vis.length
 nd:vis.Nodup
 lt:∀i∈vis,i<T.length
theorem loop2 {f:Frm} {T:List Tv} {r:Tv} {F:List Tv} (M:ModT f T r F) {H:Heap} {mo it:Nat} (hit:H.length<it)
   {vis:List Nat} {E:Env} {G:Heap} {i:Nat} {k v:AV} (o:Obj) (hA:A2 H mo it T r vis E G) (hi:i∉vis) (hkv:(esM T)[i]? =some (k,v)):
   Ret (cbL tab) none 112 (fun e E' df' H'=>(e= .normal∨e= .exit 3)/\df'=[]/\H'[it]? =some (.raw o)/\A2 H mo it T r (i::vis) E' H') [.code (.seq (.region rc3) rcd)] .normal (upd (upd (upd E 44 (.tup [.bool true,k,v])) 45 (.bool true)) 46 (.tup [k,v])) [] (G.set it (.raw o)):=by
 obtain⟨t,ht,rfl,rfl⟩:=esM_get hkv
 obtain⟨e0,e2,e43,⟨o1,raw⟩,lnk,old,len,nd,lt⟩:=hA
 have hiT:i<T.length:=(List.getElem?_eq_some_iff.1 ht).1
 have tm:t∈T:=List.mem_of_getElem? ht
 have tok:t.ok:=M.ok t tm
 obtain⟨G1,hG1⟩:∃G1,G1=G.set it (.raw o):=⟨_,rfl⟩
 have len1:G1.length=it+1+2*vis.length:=by rw[hG1,List.length_set,len]
 have raw1:G1[it]? =some (.raw o):=by rw[hG1,List.getElem?_set_self (by omega)]
 have lnk1:G1[H.length]? =some (.map (lnkM r.nm)):=by rw[hG1,List.getElem?_set_ne (by omega)];exact lnk
 have old1:∀i,i<H.length->G1[i]? =H[i]? :=fun i hi=>by rw[hG1,List.getElem?_set_ne (by omega)];exact old i hi
 rw[<-hG1]
 have o1:=tok.b.one
 have o2:=tok.n.one
 have g0:∀L:List AObj,(G1++L)[G1.length]? =L[0]? :=fun L=>by rw[List.getElem?_append_right (Nat.le_refl _),Nat.sub_self]
 have g02:∀L:List AObj,(G1++L)[G1.length+1]? =L[1]? :=fun L=>by rw[List.getElem?_append_right (by omega),show G1.length+1-G1.length=1 by omega]
 have t0:∀(L:List AObj) (o:AObj),(G1++L).set G1.length o=G1++L.set 0 o:=fun L o=>by rw[List.set_append_right _ _ (Nat.le_refl _),Nat.sub_self]
 have t02:∀(L:List AObj) (o:AObj),(G1++L).set (G1.length+1) o=G1++L.set 1 o:=fun L o=>by rw[List.set_append_right _ _ (by omega),show G1.length+1-G1.length=1 by omega]
 have gl:∀L:List AObj,(G1++L)[H.length]? =some (.map (lnkM r.nm)):=fun L=>by rw[List.getElem?_append_left (by omega)];exact lnk1
 have ut:tvC t=[.int .i64 t.n,.int .i64 t.k,.int .i64 t.l,t.bv,.int .i64 t.p,t.nv,.str (ByteArray.mk (Array.mk []))]:=rfl
 rw[ut]
 have mu:=fun H=>must_px 289 H
 have cI:=ceI t.n
 have fin:∀(E':Env) (c d:AObj),E' 0= .ptr mo 0->E' 2= .mp H.length->E' 43= .ptr it 0->(G1++[c,d])[it]? =some (.raw o)/\A2 H mo it T r (i::vis) E' (G1++[c,d]):=fun E' c d q0 q2 q43=>by
   have rw1:(G1++[c,d])[it]? =some (.raw o):=by rw[List.getElem?_append_left (by omega)];exact raw1
   refine⟨rw1,q0,q2,q43,⟨o,rw1⟩,gl _,fun j hj=>by rw[List.getElem?_append_left (by omega)];exact old1 j hj,by simp;omega,List.nodup_cons.2 ⟨hi,nd⟩,fun j hj=> ?_⟩
   rcases List.mem_cons.1 hj with rfl|hj
   . exact hiT
   . exact lt j hj
 unfold rc3 rcd
 rw[M.e]at tm
 rcases List.mem_cons.1 tm with e|tF
 . subst e
   have f0:findA 0 (.int .i64 t.n) (lnkM t.nm) 0=some none:=find_lnk t.nm 0 fun z hz e=>by
     have:=M.j.rng z.n (M.j.perm.mem_iff.1 (List.mem_map.2 ⟨z,hz,rfl⟩))
     have:=M.n
     omega
   have m1:=M.n
   have m2:=M.k
   have m3:=M.l
   have m4:=M.p
   rw[m1]at f0 cI
   simp(disch:=omega)only[wk,tupled,↓reduceIte,reduceEqDiff,reduceEq,reduceAdd,reduceCtorEq,e0,e2,e43,o1,o2,m1,m2,m3,m4,g0,g02,t0,t02,gl,f0,cI,mu,List.append_assoc,Int.reduceToNat,Int.reduceAdd,Int.reduceSub,Int.reduceMul,Int.reduceNeg,Nat.reduceSub,Nat.reduceDiv]
   refine⟨.inr trivial, ?_⟩
   exact fin _ _ _ (by simp only[en,↓reduceIte,reduceEqDiff,e0]) (by simp only[en,↓reduceIte,reduceEqDiff,e2]) (by simp only[en,↓reduceIte,reduceEqDiff,e43])
 . have tn:t.n∈F.map (·.n):=List.mem_map.2 ⟨t,tF,rfl⟩
   obtain⟨q,f1⟩:=find_lnk1 (n:=t.n) r.nm 0 (by
     obtain⟨z,hz,e⟩:=List.mem_map.1 (M.j.perm.mem_iff.2 tn)
     exact⟨z,hz,e⟩)
   have n1:¬t.n=1:=by have:=(M.j.rng t.n tn).1;omega
   obtain⟨k1,k2,k3⟩:=M.fk t tF
   have mi:=fun H=>min_px 1 1 65535 H
   rw[decide_eq_true (by decide)]at mi
   simp(disch:=omega)only[wk,tupled,↓reduceIte,reduceEqDiff,reduceEq,reduceAdd,reduceCtorEq,e0,e2,e43,o1,o2,n1,k1,k2,g0,g02,t0,t02,gl,f1,cI,mi,mu,List.append_assoc,Int.reduceToNat,Int.reduceAdd,Int.reduceSub,Int.reduceMul,Int.reduceNeg,Nat.reduceSub,Nat.reduceDiv]
   refine⟨.inl trivial, ?_⟩
   exact fin _ _ _ (by simp only[en,↓reduceIte,reduceEqDiff,e0]) (by simp only[en,↓reduceIte,reduceEqDiff,e2]) (by simp only[en,↓reduceIte,reduceEqDiff,e43])
theorem rightOk:IConOk Tryz.prog 110 rightC:=by
 intro args H o H' h
 unfold rightC at h
 split at h
 case isFalse=>cases h
 case isTrue hk=>
 obtain⟨k,hk'⟩:∃k,k=hk.choose:=⟨_,rfl⟩
 have hc:=hk.choose_spec
 rw[<-hk']at h hc
 cases h
 obtain⟨f,T,r,F,mo,mm,k0,k1,hf,M,hkk,rfl,h1,h2,ek⟩:=hc
 clear hk'
 subst ek
 intro w0 V W us hW hr
 have hmo:mo<H.length:=(List.getElem?_eq_some_iff.1 h1).1
 have hmm:mm<H.length:=(List.getElem?_eq_some_iff.1 h2).1
 have gm:∀L:List AObj,(H++L)[mo]? =some (.cells (layA f k0 k1++[.mp mm])):=fun L=>by rw[List.getElem?_append_left hmo];exact h1
 have gmm:∀L:List AObj,(H++L)[mm]? =some (.map (esM T)):=fun L=>by rw[List.getElem?_append_left hmm];exact h2
 have g0:∀L:List AObj,(H++L)[H.length]? =L[0]? :=fun L=>by rw[List.getElem?_append_right (Nat.le_refl _),Nat.sub_self]
 have hT:0<T.length:=by rw[M.e];simp
 have few:=M.j.few
 have rcd:=M.j.rcd
 refine⟨callFunc_run Tryz.func110 rfl rfl us,icon_E Tryz.func110 code110 rfl fun Q hQ=> ?_⟩
 refine wpIn_seq (code_E tabOk ra0_ok (n:=112) (by decide) (fr:=fr0 112 [.ptr mo 0]) (E:=argE [.ptr mo 0]) ⟨rfl,EV_fr0 _ _⟩ rfl (fr0_ok hr 112) hW
   (K:=fun e E' df' H'=>e= .normal/\E' 0= .ptr mo 0/\E' 2= .mp H.length/\E' 3= .int .i64 0/\df'=[]/\H'=H++[.map []]) ?_ ?_)
 . unfold ra0
   simp(disch:=omega)only[wk,tupled,↓reduceIte,reduceEqDiff,reduceEq,reduceAdd,reduceCtorEq]
 rintro e E0 H0 fr V0 a0 W0 ex ⟨rfl,e0,e2,e3,hd,rfl⟩ y1 y2 y3 y4 y5
 cases ex<;>first|exact y5.elim|skip
 show Code.wpIn _ _ _ _ _ _ _
 refine wpIn_seq (mrng_E tabOk rngB (n:=112) (by decide) (by decide) (by decide) (by decide) (E1:=upd (upd (upd (upd E0 11 (.ptr mo 0)) 12 (.ptr mo 0)) 13 (.ptr mo 10)) 14 (.mp mm)) y4 hd y3 y2 (H1:=H++[.map []]) ?_ (m:=mm) rfl (gmm [.map []]) (A1 H mo T r) ?_ ?_ ?_ ?_)
 . unfold rb1
   unfold layA frmA at gm
   simp only[List.cons_append,List.nil_append]at gm
   simp(disch:=omega)only[wk,tupled,↓reduceIte,reduceEqDiff,reduceEq,reduceAdd,reduceCtorEq,e0,gm]
 . intro o
   have hl:(H++[AObj.map []]).length=H.length+1:=by simp
   rw[hl]
   refine⟨by simp only[en,↓reduceIte,reduceEqDiff,e0],by simp only[en,↓reduceIte,reduceEqDiff,e2],by rw[if_neg List.not_mem_nil];simp only[en,↓reduceIte,reduceEqDiff,e3],by simp only[en,↓reduceIte,reduceEqDiff],⟨o,by rw[List.append_assoc,List.getElem?_append_right (by omega),show H.length+1-H.length=1 by omega];rfl⟩,by rw[List.append_assoc,g0];rfl,fun i hi=>by rw[List.append_assoc,List.getElem?_append_left hi],by simp[costM],List.nodup_nil,by simp⟩
 . intro vis E G hA
   have hl:(H++[AObj.map []]).length=H.length+1:=by simp
   rw[hl]
   exact⟨hA.e15,hA.raw,by rw[hA.old mm hmm];exact h2⟩
 . intro vis E G i k v o hA hi hkv
   exact loop1 hf M hkk h1 h2 o hA hi hkv
 intro vis E G V1 a1 W1 fr1 hA hall j1 j2 j3 j4 j5
 have m0:0∈vis:=hall 0 (by unfold esM;rw[List.length_map];exact hT)
 have hall:vis.length=T.length:=vis_all hA.nd hA.lt fun i hi=>hall i (by unfold esM;rw[List.length_map];exact hi)
 obtain⟨a0,a2,a3,a15,⟨o0,araw⟩,alnk,aold,alen,_,_⟩:=hA
 rw[if_pos m0]at a3 alnk
 unfold costM at alen
 rw[if_pos m0,hall]at alen
 show Code.wpIn _ _ _ _ _ _ _
 have gG:G[mo]? =some (.cells (layA f k0 k1++[.mp mm])):=by rw[aold mo hmo];exact h1
 have gGm:G[mm]? =some (.map (esM T)):=by rw[aold mm hmm];exact h2
 refine wpIn_seq (code_E tabOk ra6_ok (n:=112) (by decide) j5 j4 j3 j2
   (K:=fun e E' df' H'=>e= .normal/\E' 0= .ptr mo 0/\E' 2= .mp H.length/\df'=[]/\H'=G) ?_ ?_)
 . unfold ra6
   unfold layA frmA at gG
   simp only[List.cons_append,List.nil_append]at gG
   have mu:=fun H=>must_px 289 H
   simp(disch:=omega)only[wk,tupled,↓reduceIte,reduceEqDiff,reduceEq,reduceAdd,reduceCtorEq,a0,a2,a3,gG,rcd,mu]
 rintro e E6 G6 fr6 V6 a6 W6 ex ⟨rfl,e0,e2,hd,e6⟩ n1 n2 n3 n4 n5
 rw[e6]at n2
 cases ex<;>first|exact n5.elim|skip
 show Code.wpIn _ _ _ _ _ _ _
 refine mrng_E tabOk rngC (n:=112) (by decide) (by decide) (by decide) (by decide) (E1:=upd (upd (upd (upd E6 39 (.ptr mo 0)) 40 (.ptr mo 0)) 41 (.ptr mo 10)) 42 (.mp mm)) n4 hd n3 n2 (H1:=G) ?_ (m:=mm) rfl gGm (A2 H mo G.length T r) ?_ ?_ ?_ ?_
 . unfold rc1
   unfold layA frmA at gG
   simp only[List.cons_append,List.nil_append]at gG
   simp(disch:=omega)only[wk,tupled,↓reduceIte,reduceEqDiff,reduceEq,reduceAdd,reduceCtorEq,e0,gG]
 . intro o
   refine⟨by simp only[en,↓reduceIte,reduceEqDiff,e0],by simp only[en,↓reduceIte,reduceEqDiff,e2],by simp only[en,↓reduceIte,reduceEqDiff],⟨o,by rw[List.getElem?_append_right (Nat.le_refl _),Nat.sub_self];rfl⟩,by rw[List.getElem?_append_left (by omega)];exact alnk,fun i hi=>by rw[List.getElem?_append_left (by omega)];exact aold i hi,by simp,List.nodup_nil,by simp⟩
 . intro vis E G' hA
   exact⟨hA.e43,hA.raw,by rw[hA.old mm hmm];exact h2⟩
 . intro vis E G' i k v o hA hi hkv
   exact loop2 M (by omega) o hA hi hkv
 intro vis E G' V2 a2 W2 fr2 hA hall2 i1 i2 i3 i4 i5
 have hall2:vis.length=T.length:=vis_all hA.nd hA.lt fun i hi=>hall2 i (by unfold esM;rw[List.length_map];exact hi)
 have l2:=hA.len
 have c:=i2.cut (H:=H) (by omega) hA.old
 rw[show G'.length-H.length=3+4*T.length+2*r.nm.length by omega]at c
 exact hQ V2 a2 W2 fr2 (((y1.trans j1).trans n1).trans i1) c i3 i4
theorem hfT {tk:Tk} (h:tk.hf=true) (s n:Nat) (cs:List AV):lend (.sl s n cs tk)= .sl s n cs tk:=by cases tk<;>first|rfl|cases h
theorem equalB_px {s1 s2:Nat} {t1 t2:Tk} (h1:t1.hf=true) (h2:t2.hf=true) (H:Heap):pcx (cbL tab) 132 [.sl s1 0 [] t1,.sl s2 0 [] t2] H=some (.plain (.bool true)):=by
 refine pcx_N rfl (pc_wp (fi:=c132) rfl ?_ (by simp[c132]) (by decide) ?_)
 . simp only[pcOn,List.map_cons,List.map_nil,hfT h1,hfT h2,c132,hfL,AV.hf,h1,h2,Bool.and_self]
 unfold c132
 rw[List.map_cons,List.map_cons,List.map_nil,hfT h1,hfT h2]
 have n1:¬((0:Nat):Int)<((0:Nat):Int):=by omega
 simp(disch:=omega)only[wk,tupled,↓reduceIte,reduceEqDiff,reduceEq,reduceAdd,reduceCtorEq]
 rw[ret_loop]
 simp(disch:=omega)only[wk,tupled,↓reduceIte,reduceEqDiff,reduceEq,reduceAdd,reduceCtorEq,n1,purify,unownT,lend,unown,AV.hf]
theorem equalN0_px {s1 s2:Nat} {t1 t2:Tk} (h1:t1.hf=true) (h2:t2.hf=true) (H:Heap):pcx (cbL tab) 133 [.sl s1 0 [] t1,.sl s2 0 [] t2] H=some (.plain (.bool true)):=by
 refine pcx_N rfl (pc_wp (fi:=c133) rfl ?_ (by simp[c133]) (by decide) ?_)
 . simp only[pcOn,List.map_cons,List.map_nil,hfT h1,hfT h2,c133,hfL,AV.hf,h1,h2,Bool.and_self]
 unfold c133
 rw[List.map_cons,List.map_cons,List.map_nil,hfT h1,hfT h2]
 have n1:¬((0:Nat):Int)<((0:Nat):Int):=by omega
 simp(disch:=omega)only[wk,tupled,↓reduceIte,reduceEqDiff,reduceEq,reduceAdd,reduceCtorEq]
 rw[ret_loop]
 simp(disch:=omega)only[wk,tupled,↓reduceIte,reduceEqDiff,reduceEq,reduceAdd,reduceCtorEq,n1,purify,unownT,lend,unown,AV.hf]
theorem nm_eq {xo yo:X} (a c:Int) (b:ByteArray):binV .neq (.struct [0,2,0]) xo yo (.agg [.int .u64 a,.str b,.int .i64 c]) (.agg [.int .u64 a,.str b,.int .i64 c])=some (.bool false):=by
 have h:(b==b)=true:=by
   show(b.data==b.data)=true
   simp
 show(eqV (.struct [0,2,0]) (.agg [.int .u64 a,.str b,.int .i64 c]) (.agg [.int .u64 a,.str b,.int .i64 c])).map (fun b=>AV.bool (!b))=_
 have e:eqV (.struct [0,2,0]) (.agg [.int .u64 a,.str b,.int .i64 c]) (.agg [.int .u64 a,.str b,.int .i64 c])=cellsEq [0,2,0] [.int .u64 a,.str b,.int .i64 c] [.int .u64 a,.str b,.int .i64 c]:=rfl
 rw[e]
 simp only[cellsEq,cellEq,if_true,beq_self_eq_true,h]
 rfl
theorem equalN_px {l:List Nm} (hl:l.length<=1000) {s:Nat} {tk:Tk} (h:tk.hf=true) (hs:l.length≠0->s=3) (H:Heap):pcx (cbL tab) 133 [.sl s l.length (encs nmC l) tk,.sl s l.length (encs nmC l) tk] H=some (.plain (.bool true)):=by
 have hh:=hfL_encs hf_nmC l
 refine pcx_N rfl (pc_wp (fi:=c133) rfl ?_ (by simp[c133]) (by decide) ?_)
 . simp only[pcOn,List.map_cons,List.map_nil,hfT h,c133,hfL,AV.hf,h,hh,Bool.and_self]
 unfold c133
 rw[List.map_cons,List.map_cons,List.map_nil,hfT h]
 simp(disch:=omega)only[wk,tupled,↓reduceIte,reduceEqDiff,reduceEq,reduceAdd,reduceCtorEq]
 refine loop_ind (fun(x:List Nm×List Nm) E df G=>l=x.1++x.2/\E 0= .sl s l.length (encs nmC l) tk/\E 1= .sl s l.length (encs nmC l) tk/\E 12= .int .i64 ((l.length:Nat):Int)/\E 13= .int .i64 ((x.1.length:Nat):Int)/\df=[])
   (fun x=>x.2.length) ([],l) (by decide) (.inl rfl) ⟨rfl,rfl,rfl,rfl,rfl,rfl⟩ ?_
 intro ⟨pre,suf⟩ E df G ih hP
 obtain⟨a1,E0,E1,E12,E13,hdf⟩:=hP
 dsimp only at a1 E13
 subst hdf
 have la:l.length=pre.length+suf.length:=by rw[a1,List.length_append]
 cases suf with
 | nil=>
   have n1:¬(pre.length:Int)<(l.length:Int):=by rw[la];simp
   simp(disch:=omega)only[wk,tupled,↓reduceIte,reduceEqDiff,reduceEq,reduceAdd,reduceCtorEq,E0,E1,E12,E13,n1,purify,unownT,lend,unown,AV.hf]
 | cons y r=>
   rw[List.length_cons]at la
   have n1:(pre.length:Int)<(l.length:Int):=by omega
   obtain rfl:=hs (by omega)
   have d1:=nm_drop pre y r
   rw[<-a1]at d1
   simp(disch:=omega)only[wk,tupled,↓reduceIte,reduceEqDiff,reduceEq,reduceAdd,reduceCtorEq,E0,E1,E12,E13,n1,d1,nm_eq]
   exact ih (pre++[y],r) _ _ _ (by simp) ⟨by simp[a1],by simp only[en,↓reduceIte,reduceEqDiff,E0],by simp only[en,↓reduceIte,reduceEqDiff,E1],by simp only[en,↓reduceIte,reduceEqDiff,E12],by simp only[en,↓reduceIte,reduceEqDiff],rfl⟩
theorem slZ {xo yo:X} {s n:Nat} {cs:List AV} {tk:Tk}:binV .eql .slice xo yo (.sl s n cs tk) (.sl 0 0 [] .z)=some (.bool tk.isZ):=by cases tk<;>rfl
theorem pur_z {H:Heap}:purify (some (.ret (.sl 0 0 [] .z),H))=some (.plain (.sl 0 0 [] .z)):=rfl
theorem pur_e {s:Nat} {H:Heap}:purify (some (.ret (.sl s 0 [] .e),H))=some (.plain (.sl s 0 [] .e)):=rfl
theorem app_e {s z b:Nat} {tk:Tk} {H:Heap} (hz:z≠0):appV z b (.sl z 0 [] .e) (.sl s 0 [] tk) H=some (.val (.sl z 0 [] .e),H):=by
 simp[appV,hz]
theorem cloneB_px {s:Nat} {tk:Tk} (h:tk.hf=true):∃s' tk',tk'.hf=true/\∀H,pcx (cbL tab) 134 [.sl s 0 [] tk] H=some (.plain (.sl s' 0 [] tk')):=by
 cases hz:tk.isZ with
 | true=>
   refine⟨0,.z,rfl,fun H=>pcx_N rfl (pc_wp (fi:=c134) rfl ?_ (by simp[c134]) (by decide) ?_)⟩
   . simp only[pcOn,List.map_cons,List.map_nil,hfT h,c134,hfL,AV.hf,h,Bool.and_self]
   unfold c134
   rw[List.map_cons,List.map_nil,hfT h]
   simp(disch:=omega)only[wk,tupled,↓reduceIte,reduceEqDiff,reduceEq,reduceAdd,reduceCtorEq,slZ,hz,pur_z]
 | false=>
   refine⟨1,.e,rfl,fun H=>pcx_N rfl (pc_wp (fi:=c134) rfl ?_ (by simp[c134]) (by decide) ?_)⟩
   . simp only[pcOn,List.map_cons,List.map_nil,hfT h,c134,hfL,AV.hf,h,Bool.and_self]
   unfold c134
   rw[List.map_cons,List.map_nil,hfT h]
   simp(disch:=omega)only[wk,tupled,↓reduceIte,reduceEqDiff,reduceEq,reduceAdd,reduceCtorEq,slZ,hz,app_e (z:=1) (by decide),app_e (z:=3) (by decide),pur_e]
theorem cloneN0_px {s:Nat} {tk:Tk} (h:tk.hf=true):∃s' tk',tk'.hf=true/\∀H,pcx (cbL tab) 135 [.sl s 0 [] tk] H=some (.plain (.sl s' 0 [] tk')):=by
 cases hz:tk.isZ with
 | true=>
   refine⟨0,.z,rfl,fun H=>pcx_N rfl (pc_wp (fi:=c135) rfl ?_ (by simp[c135]) (by decide) ?_)⟩
   . simp only[pcOn,List.map_cons,List.map_nil,hfT h,c135,hfL,AV.hf,h,Bool.and_self]
   unfold c135
   rw[List.map_cons,List.map_nil,hfT h]
   simp(disch:=omega)only[wk,tupled,↓reduceIte,reduceEqDiff,reduceEq,reduceAdd,reduceCtorEq,slZ,hz,pur_z]
 | false=>
   refine⟨3,.e,rfl,fun H=>pcx_N rfl (pc_wp (fi:=c135) rfl ?_ (by simp[c135]) (by decide) ?_)⟩
   . simp only[pcOn,List.map_cons,List.map_nil,hfT h,c135,hfL,AV.hf,h,Bool.and_self]
   unfold c135
   rw[List.map_cons,List.map_nil,hfT h]
   simp(disch:=omega)only[wk,tupled,↓reduceIte,reduceEqDiff,reduceEq,reduceAdd,reduceCtorEq,slZ,hz,app_e (z:=1) (by decide),app_e (z:=3) (by decide),pur_e]
theorem oneN:∀l:List Nm,allOne (encs nmC l)=true
 |[]=>rfl
 |x::l=>by rw[encs_cons,allOne_append,oneN l];rfl
theorem cloneN_px {l:List Nm} (hl:l.length<=1000) (h0:l≠[]) {tk:Tk} (h:tk.hf=true) (hz:tk≠ .z) (H:Heap):pcx (cbL tab) 135 [.sl 3 l.length (encs nmC l) tk] H=some (.fresh 3 l.length (encs nmC l)):=by
 have hh:=hfL_encs hf_nmC l
 have n0:l.length≠0:=fun e=>h0 (List.eq_nil_of_length_eq_zero e)
 have hz:tk.isZ=false:=by cases tk<;>first|rfl|exact absurd rfl hz
 refine pcx_N rfl (pc_wp (fi:=c135) rfl ?_ (by simp[c135]) (by decide) ?_)
 . simp only[pcOn,List.map_cons,List.map_nil,hfT h,c135,hfL,AV.hf,h,hh,Bool.and_self]
 unfold c135
 rw[List.map_cons,List.map_nil,hfT h]
 have own0:Own ([]:Heap) 3 (.sl 3 0 [] .e) 0 []:= .inl ⟨.inr rfl,rfl,rfl⟩
 simp(disch:=omega)only[wk,tupled,↓reduceIte,reduceEqDiff,reduceEq,reduceAdd,reduceCtorEq,slZ,hz]
 refine runX_app own0 (by omega) (by omega) (by omega) n0 (by rw[encs_length]) (oneN _) (fun H2 q1 q2 q3=> ?_)
 simp only[Nat.zero_add,List.nil_append]at q1 ⊢
 simp(disch:=omega)only[wk,tupled,↓reduceIte,reduceEqDiff,reduceEq,reduceAdd,reduceCtorEq]
 rw[<-prRow_ne (f:=nmC) (sz:=3) h0]
 exact purify_row hf_nmC q1 (fun e=>absurd e h0)
def y7 (n k l:Int) (bv:AV) (p:Int) (nv:AV):List AV:=[.int .i64 n,.int .i64 k,.int .i64 l,bv,.int .i64 p,nv,.str (ByteArray.mk (Array.mk []))]
theorem dz:decide (((0:Nat):Int)<=65536)=true:=rfl
theorem bareF_px (n:Int) (H:Heap):pcx (cbL tab) 106 [.agg (tvC (fileT n))] H=some (.plain (.tup [.agg (y7 n 1 1 (.sl 1 0 [] .e) 0 (.sl 0 0 [] .z)),.bool true])):=by
 refine pcx_N rfl (pc_wp6 (fi:=c106) rfl rfl (by simp[c106]) (by decide) ?_)
 unfold c106
 have ut:tvC (fileT n)=[.int .i64 n,.int .i64 1,.int .i64 1,.sl 1 0 [] .e,.int .i64 0,.sl 3 0 [] .e,.str (ByteArray.mk (Array.mk []))]:=rfl
 rw[ut]
 have li:lend (.agg [.int .i64 n,.int .i64 1,.int .i64 1,.sl 1 0 [] .e,.int .i64 0,.sl 3 0 [] .e,.str (ByteArray.mk (Array.mk []))])= .agg [.int .i64 n,.int .i64 1,.int .i64 1,.sl 1 0 [] .e,.int .i64 0,.sl 3 0 [] .e,.str (ByteArray.mk (Array.mk []))]:=rfl
 rw[List.map_cons,List.map_nil,li]
 have pd:∀H,purD (some (.ret (.tup [.agg [.int .i64 n,.int .i64 1,.int .i64 1,.sl 1 0 [] .e,.int .i64 0,.sl 0 0 [] .z,.str (ByteArray.mk (Array.mk []))],.bool true]),H))=some (.plain (.tup [.agg [.int .i64 n,.int .i64 1,.int .i64 1,.sl 1 0 [] .e,.int .i64 0,.sl 0 0 [] .z,.str (ByteArray.mk (Array.mk []))],.bool true])):=fun H=>rfl
 unfold y7
 simp(disch:=omega)only[wk,tupled,↓reduceIte,reduceEqDiff,reduceEq,reduceAdd,reduceCtorEq,pd,Int.reduceToNat,Int.reduceAdd,Int.reduceSub,Int.reduceMul,Int.reduceNeg,Nat.reduceSub,Nat.reduceDiv,dz]
theorem IsR.dz {n:Nat} {v:AV} (h:IsR 1 0 [] v):∃s tk,v= .sl s 0 [] tk/\tk.hf=true:=by
 obtain⟨s,tk,e,_,ht⟩:=h
 exact⟨s,tk,e,ht⟩
theorem row_pic {sz n:Nat} {l:List Nm} {s:Nat} {tk:Tk} (h:tk.hf=true) (H:Heap):deep1 (lendK H 3 (.sl s n (encs nmC l) tk))= .sl s n (encs nmC l) tk:=by
 have e:(encs nmC l).map unown=encs nmC l:=by
   induction l with
   |nil=>rfl
   |cons x l ih=>rw[encs_cons,List.map_append,ih];rfl
 show unown (.sl s n ((encs nmC l).map unown) tk)=_
 rw[e]
 cases tk<;>first|rfl|cases h
theorem lendR {s n:Nat} {cs:List AV} {tk:Tk} (h:tk.hf=true):unown (.sl s n cs tk)= .sl s n cs tk:=by cases tk<;>first|rfl|cases h
theorem pd7 {n k l p:Int} {b:Bool} {bv nv bv' nv':AV} {H:Heap} (hb:deep1 (lendK H 3 bv)=bv') (hn:deep1 (lendK H 3 nv)=nv') (fb:bv'.hf=true) (fn:nv'.hf=true):purD (some (.ret (.tup [.agg [.int .i64 n,.int .i64 k,.int .i64 l,bv,.int .i64 p,nv,.str (ByteArray.mk (Array.mk []))],.bool b]),H))=some (.plain (.tup [.agg [.int .i64 n,.int .i64 k,.int .i64 l,bv',.int .i64 p,nv',.str (ByteArray.mk (Array.mk []))],.bool b])):=by
 have e1:picV H (.tup [.agg [.int .i64 n,.int .i64 k,.int .i64 l,bv,.int .i64 p,nv,.str (ByteArray.mk (Array.mk []))],.bool b])= .tup [.agg [.int .i64 n,.int .i64 k,.int .i64 l,bv',.int .i64 p,nv',.str (ByteArray.mk (Array.mk []))],.bool b]:=by
   show AV.tup [.agg [_,_,_,deep1 (lendK H 3 bv),_,deep1 (lendK H 3 nv),_],.bool b]=_
   rw[hb,hn];rfl
 simp only[purD,e1]
 rw[if_pos]
 simp[AV.hf,hfL,fb,fn]
theorem bareR_px {rt:Tv} (h:RootT rt) (H:Heap):pcx (cbL tab) 106 [.agg (tvC rt)] H=some (.plain (.tup [.agg (y7 1 2 1 (.sl 0 0 [] .z) 1 rt.nv),.bool true])):=by
 obtain⟨h1,h2,h3,h4,⟨hb,hn,few⟩,hu,_⟩:=h
 obtain⟨sb,tb,eb,_,tbf⟩:=hb
 obtain⟨s,tk,en,hs,tf⟩:=hn
 have hh:=hfL_encs hf_nmC rt.nm
 have ut:tvC rt=[.int .i64 1,.int .i64 2,.int .i64 1,.sl sb 0 [] tb,.int .i64 1,.sl s rt.nm.length (encs nmC rt.nm) tk,.str (ByteArray.mk (Array.mk []))]:=by
   unfold tvC;rw[h1,h2,h3,h4,eb,en]
 have li:lend (.agg (tvC rt))= .agg (tvC rt):=by
   rw[ut]
   show AV.agg [_,_,_,unown (.sl sb 0 [] tb),_,unown (.sl s rt.nm.length (encs nmC rt.nm) tk),_]=_
   rw[lendR tbf,lendR tf];rfl
 refine pcx_N rfl (pc_wp6 (fi:=c106) rfl ?_ (by simp[c106]) (by decide) ?_)
 . simp only[pcOn,List.map_cons,List.map_nil,li,c106]
   rw[ut]
   simp[hfL,AV.hf,hh,tbf,tf]
 unfold c106
 rw[List.map_cons,List.map_nil,li,ut]
 have pd:=fun H=>pd7 (n:=1) (k:=2) (l:=1) (p:=1) (b:=true) (bv:= .sl 0 0 [] .z) (bv':= .sl 0 0 [] .z) (nv:= .sl s rt.nm.length (encs nmC rt.nm) tk) (H:=H) rfl (row_pic (sz:=3) tf H) rfl (by simp[AV.hf,hh,tf])
 unfold y7
 rw[en]
 simp(disch:=omega)only[wk,tupled,↓reduceIte,reduceEqDiff,reduceEq,reduceAdd,reduceCtorEq,pd,Int.reduceToNat,Int.reduceAdd,Int.reduceSub,Int.reduceMul,Int.reduceNeg,Nat.reduceSub,Nat.reduceDiv,dz]
theorem lend_y7 {n k l p:Int} {s1 s2 n2:Nat} {c2:List AV} {t1 t2:Tk} (h1:t1.hf=true) (h2:t2.hf=true):lend (.agg (y7 n k l (.sl s1 0 [] t1) p (.sl s2 n2 c2 t2)))= .agg (y7 n k l (.sl s1 0 [] t1) p (.sl s2 n2 c2 t2)):=by
 show AV.agg [_,_,_,unown (.sl s1 0 [] t1),_,unown (.sl s2 n2 c2 t2),_]=_
 rw[lendR h1,lendR h2];rfl
theorem se0 {xo yo:X}:binV .eql .str xo yo (.str (ByteArray.mk (Array.mk []))) (.str (ByteArray.mk (Array.mk [])))=some (.bool true):=by
 simp[binV,binStr]
theorem same_px {n k l p:Int} {s1 s2 s3 s4:Nat} {m:List Nm} {t1 t2 t3 t4:Tk} (h1:t1.hf=true) (h2:t2.hf=true) (h3:t3.hf=true) (h4:t4.hf=true) (hm:m.length<=1000) (h:m=[]∨s3=3/\s4=3/\t3=t4) (H:Heap):
   pcx (cbL tab) 107 [.agg (y7 n k l (.sl s1 0 [] t1) p (.sl s3 m.length (encs nmC m) t3)),.agg (y7 n k l (.sl s2 0 [] t2) p (.sl s4 m.length (encs nmC m) t4))] H=some (.plain (.bool true)):=by
 have hh:=hfL_encs hf_nmC m
 refine pcx_N rfl (pc_wp (fi:=c107) rfl ?_ (by simp[c107]) (by decide) ?_)
 . simp only[pcOn,List.map_cons,List.map_nil,lend_y7 h1 h3,lend_y7 h2 h4,c107]
   simp[hfL,AV.hf,y7,hh,h1,h2,h3,h4]
 unfold c107
 rw[List.map_cons,List.map_cons,List.map_nil,lend_y7 h1 h3,lend_y7 h2 h4]
 have eb:=fun H=>equalB_px (s1:=s1) (s2:=s2) h1 h2 H
 have en:∀H,pcx (cbL tab) 133 [.sl s3 m.length (encs nmC m) t3,.sl s4 m.length (encs nmC m) t4] H=some (.plain (.bool true)):=by
   intro H
   rcases h with rfl|⟨rfl,rfl,rfl⟩
   . exact equalN0_px h3 h4 H
   . exact equalN_px hm h3 (fun _=>rfl) H
 have o1:AV.one (.sl s1 0 [] t1)=true:=rfl
 unfold y7
 simp(disch:=omega)only[wk,tupled,↓reduceIte,reduceEqDiff,reduceEq,reduceAdd,reduceCtorEq,eb,en,se0,Int.reduceToNat,Int.reduceAdd,Int.reduceSub,Int.reduceMul,Int.reduceNeg,Nat.reduceSub,Nat.reduceDiv,purify,unownT,lend,unown,AV.hf]
theorem pdA {n k l p:Int} {bv nv bv' nv':AV} {H:Heap} (hb:deep1 (lendK H 3 bv)=bv') (hn:deep1 (lendK H 3 nv)=nv') (fb:bv'.hf=true) (fn:nv'.hf=true):purD (some (.ret (.agg [.int .i64 n,.int .i64 k,.int .i64 l,bv,.int .i64 p,nv,.str (ByteArray.mk (Array.mk []))]),H))=some (.plain (.agg [.int .i64 n,.int .i64 k,.int .i64 l,bv',.int .i64 p,nv',.str (ByteArray.mk (Array.mk []))])):=by
 have e1:picV H (.agg [.int .i64 n,.int .i64 k,.int .i64 l,bv,.int .i64 p,nv,.str (ByteArray.mk (Array.mk []))])= .agg [.int .i64 n,.int .i64 k,.int .i64 l,bv',.int .i64 p,nv',.str (ByteArray.mk (Array.mk []))]:=by
   show AV.agg [_,_,_,deep1 (lendK H 3 bv),_,deep1 (lendK H 3 nv),_]=_
   rw[hb,hn];rfl
 simp only[purD,e1]
 rw[if_pos]
 simp[AV.hf,hfL,fb,fn]
theorem row_picO {n g:Nat} {l:List Nm} (H:Heap):deep1 (lendK H 3 (.sl 3 n (encs nmC l) (.own g)))= .sl 3 n (encs nmC l) .ro:=by
 have e:(encs nmC l).map unown=encs nmC l:=by
   induction l with
   |nil=>rfl
   |cons x l ih=>rw[encs_cons,List.map_append,ih];rfl
 show unown (.sl 3 n ((encs nmC l).map unown) (.own g))=_
 rw[e];rfl
theorem own_px {t:Tv} (h:t.ok) (hz:t.nm≠[]->∀s n cs,t.nv≠ .sl s n cs .z) (hu:un t=t):∃t',t'.ok/\t'.n=t.n/\t'.k=t.k/\t'.l=t.l/\t'.p=t.p/\t'.nm=t.nm/\un t'=t'/\∀H,pcx (cbL tab) 109 [.agg (tvC t)] H=some (.plain (.agg (tvC t'))):=by
 obtain⟨hb,hn,few⟩:=h
 obtain⟨sb,tb,eb,_,tbf⟩:=hb
 obtain⟨s,tk,en,hs,tf⟩:=hn
 have hh:=hfL_encs hf_nmC t.nm
 have ut:tvC t=y7 t.n t.k t.l (.sl sb 0 [] tb) t.p (.sl s t.nm.length (encs nmC t.nm) tk):=by
   unfold tvC y7;rw[eb,en]
 have li:=lend_y7 (n:=t.n) (k:=t.k) (l:=t.l) (p:=t.p) (s1:=sb) (s2:=s) (n2:=t.nm.length) (c2:=encs nmC t.nm) tbf tf
 obtain⟨s',tk',f',cb⟩:=cloneB_px (s:=sb) tbf
 have on:pcOn c109 [.agg (tvC t)]=true:=by
   simp only[pcOn,List.map_cons,List.map_nil,ut,li,c109]
   simp[hfL,AV.hf,y7,hh,tbf,tf]
 by_cases h0:t.nm=[]
 . obtain⟨s2,tk2,f2,cn⟩:=cloneN0_px (s:=s) tf
   refine⟨{t with bv:= .sl s' 0 [] tk',nv:= .sl s2 0 [] tk2},⟨⟨s',tk',rfl,by simp,f'⟩,⟨s2,tk2,by dsimp only;rw[h0];rfl,by simp[h0],f2⟩,few⟩,rfl,rfl,rfl,rfl,rfl, ?_,fun H=>pcx_N rfl (pc_wp6 (fi:=c109) rfl on (by simp[c109]) (by decide) ?_)⟩
   . unfold un;dsimp only;rw[lendR f',lendR f2]
   rw[List.map_cons,List.map_nil,ut,li]
   unfold c109
   rw[h0]
   have pd:=fun H=>pdA (n:=t.n) (k:=t.k) (l:=t.l) (p:=t.p) (bv:= .sl s' 0 [] tk') (nv:= .sl s2 0 [] tk2) (H:=H) (by show unown (.sl s' 0 [] tk')=_;exact lendR f') (by show unown (.sl s2 0 [] tk2)=_;exact lendR f2) (by simp[AV.hf,hfL,f']) (by simp[AV.hf,hfL,f2])
   unfold y7 tvC
   simp(disch:=omega)only[wk,tupled,↓reduceIte,reduceEqDiff,reduceEq,reduceAdd,reduceCtorEq,cb,cn,pd,Int.reduceToNat,Int.reduceAdd,Int.reduceSub,Int.reduceMul,Int.reduceNeg,Nat.reduceSub,Nat.reduceDiv]
 . have tz:tk≠ .z:=fun e=>hz h0 s _ _ (by rw[en,e])
   have hn:t.nm.length≠0:=fun e=>h0 (List.eq_nil_of_length_eq_zero e)
   obtain rfl:=hs hn
   have cn:=fun H=>cloneN_px few h0 tf tz H
   refine⟨{t with bv:= .sl s' 0 [] tk',nv:= .sl 3 t.nm.length (encs nmC t.nm) .ro},⟨⟨s',tk',rfl,by simp,f'⟩,⟨3,.ro,rfl,fun _=>rfl,rfl⟩,few⟩,rfl,rfl,rfl,rfl,rfl, ?_,fun H=>pcx_N rfl (pc_wp6 (fi:=c109) rfl on (by simp[c109]) (by decide) ?_)⟩
   . unfold un;dsimp only;rw[lendR f'];rfl
   rw[List.map_cons,List.map_nil,ut,li]
   unfold c109
   have pd:=fun g H=>pdA (n:=t.n) (k:=t.k) (l:=t.l) (p:=t.p) (bv:= .sl s' 0 [] tk') (nv:= .sl 3 t.nm.length (encs nmC t.nm) (.own g)) (H:=H) (by show unown (.sl s' 0 [] tk')=_;exact lendR f') (row_picO H) (by simp[AV.hf,hfL,f']) (by simp[AV.hf,hh,Tk.hf])
   unfold y7 tvC
   simp(disch:=omega)only[wk,tupled,↓reduceIte,reduceEqDiff,reduceEq,reduceAdd,reduceCtorEq,cb,cn,pd,Int.reduceToNat,Int.reduceAdd,Int.reduceSub,Int.reduceMul,Int.reduceNeg,Nat.reduceSub,Nat.reduceDiv]
noncomputable def tabR (f:FuncId):Option AFun:=if f=110 then some {c110 with icon:=some rightC}else tab f
theorem tabR_ne {f:FuncId} (h:f≠110):tabR f=tab f:=if_neg h
theorem tabROk:TabOk Tryz.prog tabR:=by
 intro f fi h
 by_cases e:f=110
 . subst e
   cases h
   exact⟨⟨Tryz.f110,0,Tryz.func110,c110_ok⟩,(fun g hg=>by cases hg),fun g hg=>by cases hg;exact rightOk⟩
 . rw[tabR_ne e]at h
   exact tabOk f fi h
theorem subR:CB.Le (cbL tab) (cbL tabR):=by
 refine cbL_sub (fun f fi h=> ?_) (fun f=> ?_)
 . by_cases e:f=110
   . subst e;cases h
   . rw[tabR_ne e];exact h
 . unfold lentA
   by_cases e:f=110
   . subst e;rfl
   . rw[tabR_ne e]
theorem toR {f:FuncId} {args:List AV} {H:Heap} {r:PR} (h:pcx (cbL tab) f args H=some r):pcx (cbL tabR) f args H=some r:=pcx_mono subR h
theorem rightR {args:List AV} {H:Heap} {k:Nat} (h:RightCond args H k):∃k,(cbL tabR).ic 110 args H=some (.ret (.tup []),H++List.replicate k .dead):=by
 have hx:∃k,RightCond args H k:=⟨k,h⟩
 refine⟨hx.choose,ic_of ?_⟩
 have e:rightC args H=some (.ret (.tup []),H++List.replicate hx.choose .dead):=by
   unfold rightC;rw[dif_pos hx]
 have ht:tabR 110=some {c110 with icon:=some rightC}:=rfl
 rw[icA,ht]
 exact e
theorem pnR (args:List AV) (H:Heap):pcx (cbL tabR) 110 args H=none:=pcx_none rfl (pc_none (fi:={c110 with icon:=some rightC}) rfl rfl)
theorem llR:(cbL tabR).lent 110=false:=rfl
theorem caught_mret (a:Nat) (f:FuncId) (caps:List AV) (H:Heap):leaveA tabR (cbL tabR) [.call 102 [.ptr a 0,.fn f caps]] .returning H=some (.returning,H):=by
 rfl
theorem mustR (e:Int) (H:Heap):pcx (cbL tabR) 105 [.bool true,.int .i64 e] H=some (.plain (.tup [])):=toR (must_px e H)
structure ThingM (t t':Tv) (k l:Int) (bv:AV) (p:Int) (nv:AV):Prop where
 bo:bv.one=true
 no:nv.one=true
 bare:∀H,pcx (cbL tabR) 106 [.agg (tvC t)] H=some (.plain (.tup [.agg (y7 t.n k l bv p nv),.bool true]))
 same:∀H,pcx (cbL tabR) 107 [.agg (tvC t),.agg (y7 t.n k l bv p nv)] H=some (.plain (.bool true))
 own:∀H,pcx (cbL tabR) 109 [.agg (tvC t)] H=some (.plain (.agg (tvC t')))
 ok:t'.ok
 eqs:t'.n=t.n/\t'.k=t.k/\t'.l=t.l/\t'.p=t.p/\t'.nm=t.nm
theorem thingM {rt:Tv} (h:RootT rt) {ns:List Int} {t:Tv} (ht:t∈mkT rt ns):∃t' k l bv p nv,ThingM t t' k l bv p nv:=by
 rcases List.mem_cons.1 ht with rfl|ht
 . obtain⟨t',h1,h2,h3,h4,h5,h6,_,h7⟩:=own_px h.ok h.nz h.un
   obtain⟨sb,tb,eb,_,tbf⟩:=h.ok.b
   obtain⟨s,tk,en,hs,tf⟩:=h.ok.n
   have hr:=h.n
   refine⟨t',2,1,.sl 0 0 [] .z,1,t.nv,rfl,h.ok.n.one,fun H=> ?_,fun H=> ?_,fun H=>toR (h7 H),h1,h2,h3,h4,h5,h6⟩
   . rw[hr];exact toR (bareR_px h H)
   . have ut:tvC t=y7 1 2 1 (.sl sb 0 [] tb) 1 (.sl s t.nm.length (encs nmC t.nm) tk):=by
       unfold tvC y7;rw[h.n,h.k,h.l,h.p,eb,en]
     rw[hr,ut,en]
     refine toR (same_px tbf rfl tf tf h.ok.few ?_ H)
     by_cases h0:t.nm=[]
     . exact .inl h0
     . have:=hs fun e=>h0 (List.eq_nil_of_length_eq_zero e)
       exact .inr ⟨this,this,rfl⟩
 . obtain⟨n,_,rfl⟩:=List.mem_map.1 ht
   obtain⟨t',h1,h2,h3,h4,h5,h6,_,h7⟩:=own_px (fileT_ok n) (by simp[fileT]) rfl
   refine⟨t',1,1,.sl 1 0 [] .e,0,.sl 0 0 [] .z,rfl,rfl,fun H=>toR (bareF_px n H),fun H=> ?_,fun H=>toR (h7 H),h1,h2,h3,h4,h5,h6⟩
   exact toR (same_px (m:=[]) (t1:= .e) (t2:= .e) (t3:= .e) (t4:= .z) rfl rfl rfl rfl (by simp) (.inl rfl) H)
def ky (t:Tv):Int×Int×Int×Int×List Nm:=(t.n,t.k,t.l,t.p,t.nm)
def Cop (D pre:List Tv):Prop:=D.map ky=pre.map ky/\okT D
theorem Cop.n {D pre:List Tv} (h:Cop D pre):D.map (·.n)=pre.map (·.n):=by
 have:=congrArg (List.map (·.1)) h.1
 rw[List.map_map,List.map_map]at this
 exact this
theorem mkT_srt {f:Frm} {rt:Tv} (h:RootT rt) {ns:List Int} (j:JV f rt.nm ns):((mkT rt ns).map (·.n)).Pairwise (· < ·)/\∀t∈mkT rt ns,1<=t.n:=by
 have e:(ns.map fileT).map (·.n)=ns:=by
   rw[List.map_map]
   exact List.map_id' _
 refine⟨?_,fun t ht=> ?_⟩
 . unfold mkT
   rw[List.map_cons,e,h.n]
   exact List.pairwise_cons.2 ⟨fun n hn=>by have:=(j.rng n hn).1;omega,j.sort⟩
 . rcases List.mem_cons.1 ht with rfl|ht
   . rw[h.n];decide
   . obtain⟨n,hn,rfl⟩:=List.mem_map.1 ht
     have:=(j.rng n hn).1
     show 1<=n
     omega
theorem modT_of {f:Frm} {rt:Tv} (h:RootT rt) {ns:List Int} (j:JV f rt.nm ns) {D:List Tv} (c:Cop D (mkT rt ns)):∃r F,ModT f D r F/\r.nm=rt.nm:=by
 obtain⟨c1,c2⟩:=c
 cases D with
 |nil=>cases c1
 | cons r F=>
   unfold mkT at c1
   rw[List.map_cons,List.map_cons]at c1
   injection c1 with e1 e2
   have e1:(r.n,r.k,r.l,r.p,r.nm)=(rt.n,rt.k,rt.l,rt.p,rt.nm):=e1
   injection e1 with a1 e1
   injection e1 with a2 e1
   injection e1 with a3 e1
   injection e1 with a4 a5
   have hn:F.map (·.n)=ns:=by
     have:=congrArg (List.map (·.1)) e2
     rw[List.map_map,List.map_map,List.map_map]at this
     exact this.trans (List.map_id' _)
   refine⟨r,F,⟨rfl,a1.trans h.n,a2.trans h.k,a3.trans h.l,a4.trans h.p,c2,fun t ht=> ?_,by rw[a5,hn];exact j⟩,a5⟩
   have:ky t∈(ns.map fileT).map ky:=by rw[<-e2];exact List.mem_map.2 ⟨t,ht,rfl⟩
   obtain⟨u,hu,eu⟩:=List.mem_map.1 this
   obtain⟨n,_,rfl⟩:=List.mem_map.1 hu
   have eu:(n,(1:Int),(1:Int),(0:Int),([]:List Nm))=(t.n,t.k,t.l,t.p,t.nm):=eu
   injection eu with b1 eu
   injection eu with b2 eu
   injection eu with b3 eu
   injection eu with b4 b5
   exact⟨b2.symm,b3.symm,b5.symm⟩
theorem find_esn {n:Int}:∀(T:List Tv) (k:Nat),(∀t∈T,t.n≠n)->findA 0 (.int .i64 n) (esM T) k=some none
 |[],_,_=>rfl
 | t::r,k,h=>by
   have e:findA 0 (.int .i64 n) (esM (t::r)) k=(match cellEq 0 (.int .i64 n) (.int .i64 t.n)with
     |some true=>some (some (k,.agg (tvC t)))
     |some false=>findA 0 (.int .i64 n) (esM r) (k+1)
     |none=>none):=rfl
   have:cellEq 0 (.int .i64 n) (.int .i64 t.n)=some false:=by
     show some (n==t.n)=_
     rw[show(n==t.n)=false by simpa using fun e:n=t.n=>h t (List.mem_cons_self ..) e.symm]
   rw[e,this]
   exact find_esn r (k+1) fun u hu=>h u (List.mem_cons_of_mem _ hu)
theorem mOf_ic {f:Frm} (hf:okF f) {rt:Tv} (h:RootT rt) {ns:List Int} (j:JV f rt.nm ns) {k0 k1:Int} (u0:U64 k0) (u1:U64 k1) (hk:rt.nm=[]∨k0=5/\k1=6) (H:Heap):
   ∃G,(cbL tabR).ic 72 [.agg (layA f k0 k1),.sl 7 (mkT rt ns).length (encs tvC (mkT rt ns)) .ro] H=some (.ret (.tup [.ptr (H.length+4) 0,.int .i64 0]),G)/\∀i,i<H.length->G[i]? =H[i]? :=by
 obtain⟨T,hT⟩:∃T,T=mkT rt ns:=⟨_,rfl⟩
 have okT':=mkT_ok h ns
 obtain⟨sv,su⟩:=super_px hf u0 u1
 have su:=fun H=>toR (su H)
 rw[<-hT]at okT' ⊢
 have:=ic_wp (tab:=tabR) (f:=72) (fi:=c72) (args:=[.agg (layA f k0 k1),.sl 7 T.length (encs tvC T) .ro]) (H:=H) (P:=fun o G=>o= .ret (.tup [.ptr (H.length+4) 0,.int .i64 0])/\∀i,i<H.length->G[i]? =H[i]?) rfl rfl (by simp[c72]) (by decide) ?_
 . obtain⟨o,G,e1,rfl,e2⟩:=this
   exact⟨G,e1,e2⟩
 unfold c72
 have la:layA f k0 k1=[.int .i64 f.b,.int .i64 f.i,.int .i64 f.r,.int .i64 f.t,.int .u64 k0,.int .u64 k1,.int .i64 9,.int .i64 (9+f.i/4),.int .i64 (9+f.i/4+f.r/4),.int .i64 (9+f.i/4+f.r/4+1)]:=rfl
 have g0:∀L:List AObj,(H++L)[H.length]? =L[0]? :=fun L=>by rw[List.getElem?_append_right (Nat.le_refl _),Nat.sub_self]
 have gk:∀(k:Nat) (L:List AObj),(H++L)[H.length+k]? =L[k]? :=fun k L=>by rw[List.getElem?_append_right (by omega),show H.length+k-H.length=k by omega]
 have tk0:∀(k:Nat) (L:List AObj) (o:AObj),(H++L).set (H.length+k) o=H++L.set k o:=fun k L o=>by rw[List.set_append_right _ _ (by omega),show H.length+k-H.length=k by omega]
 rw[la]at su ⊢
 have hf':=hf
 unfold okF at hf'
 obtain⟨srt,n1s⟩:=mkT_srt h j
 have rngT:∀t∈T,t.n<=f.i:=fun t ht=>by
   rw[hT]at ht
   rcases List.mem_cons.1 ht with rfl|ht
   . rw[h.n];omega
   . obtain⟨n,hn,rfl⟩:=List.mem_map.1 ht
     exact(j.rng n hn).2
 rw[<-hT]at srt n1s
 have fi:1<=f.i/\f.i<=256:=by omega
 have lenT:T.length<=1000:=by rw[hT];unfold mkT;have:=j.len;have:=j.few;simp;omega
 simp(disch:=omega)only[wk,tupled,↓reduceIte,reduceEqDiff,reduceEq,reduceAdd,reduceCtorEq,g0,gk,tk0,su,mustR,List.append_assoc]
 refine loop_ind (fun(x:List Tv×List Tv) E df G=>T=x.1++x.2/\(∃D,Cop D x.1/\G[H.length+3]? =some (.map (esM D)))/\(∃last:Int,E 8= .int .i64 last/\0<=last/\last<=f.i/\∀y∈x.2,last<y.n)/\E 2= .ptr H.length 0/\E 4= .ptr (H.length+1) 0/\E 5= .ptr (H.length+2) 0/\E 28= .sl 7 T.length (encs tvC T) .ro/\E 29= .int .i64 ((T.length:Nat):Int)/\E 30= .int .i64 ((x.1.length:Nat):Int)/\df=[.call 102 [.ptr (H.length+2) 0,.fn 103 [.ptr (H.length+1) 0]]]
     /\H.length+5<=G.length/\(∀i,i<H.length->G[i]? =H[i]?)/\G[H.length]? =some (.cells (layA f k0 k1))/\G[H.length+1]? =some (.cells [.ptr (H.length+4) 0])/\G[H.length+2]? =some (.cells [.int .i64 0])/\G[H.length+4]? =some (.cells (layA f k0 k1++[.mp (H.length+3)])))
   (fun x=>x.2.length) ([],T) (by decide) (.inl rfl) ⟨rfl,⟨[],⟨rfl,fun _ h=>by cases h⟩,by rw[gk];rfl⟩,⟨0,rfl,by decide,by omega,fun y hy=>by have:=n1s y hy;omega⟩,rfl,rfl,rfl,rfl,rfl,rfl,rfl,by simp,fun i hi=>List.getElem?_append_left hi,by rw[g0];rfl,by rw[gk];rfl,by rw[gk];rfl,by rw[gk];rfl⟩ ?_
 intro ⟨pre,suf⟩ E df G ih hP
 obtain⟨a1,⟨D,cD,m3⟩,⟨last,E8,l0,lf,ls⟩,E2,E4,E5,E28,E29,E30,hdf,gl,gold,m0,m1,m2,m4⟩:=hP
 dsimp only at a1 cD ls E30
 subst hdf
 have laT:T.length=pre.length+suf.length:=by rw[a1,List.length_append]
 have q0:∀L:List AObj,(G++L)[H.length]? =some (.cells (layA f k0 k1)):=fun L=>by rw[List.getElem?_append_left (by omega)];exact m0
 have q1:∀L:List AObj,(G++L)[H.length+1]? =some (.cells [.ptr (H.length+4) 0]):=fun L=>by rw[List.getElem?_append_left (by omega)];exact m1
 have q2:∀L:List AObj,(G++L)[H.length+2]? =some (.cells [.int .i64 0]):=fun L=>by rw[List.getElem?_append_left (by omega)];exact m2
 have q3:∀L:List AObj,(G++L)[H.length+3]? =some (.map (esM D)):=fun L=>by rw[List.getElem?_append_left (by omega)];exact m3
 have q4:∀L:List AObj,(G++L)[H.length+4]? =some (.cells (layA f k0 k1++[.mp (H.length+3)])):=fun L=>by rw[List.getElem?_append_left (by omega)];exact m4
 have p0:∀L:List AObj,(G++L)[G.length]? =L[0]? :=fun L=>by rw[List.getElem?_append_right (Nat.le_refl _),Nat.sub_self]
 have pk:∀(k:Nat) (L:List AObj),(G++L)[G.length+k]? =L[k]? :=fun k L=>by rw[List.getElem?_append_right (by omega),show G.length+k-G.length=k by omega]
 have z0:∀(L:List AObj) (o:AObj),(G++L).set G.length o=G++L.set 0 o:=fun L o=>by rw[List.set_append_right _ _ (Nat.le_refl _),Nat.sub_self]
 have zk:∀(k:Nat) (L:List AObj) (o:AObj),(G++L).set (G.length+k) o=G++L.set k o:=fun k L o=>by rw[List.set_append_right _ _ (by omega),show G.length+k-G.length=k by omega]
 rw[la]at q0 q4
 simp only[List.cons_append,List.nil_append]at q4
 clear g0 gk tk0 su
 cases suf with
 | nil=>
   have n1:¬(pre.length:Int)<(T.length:Int):=by rw[laT];simp
   have ep:pre=T:=by rw[a1];simp
   rw[ep,hT]at cD
   obtain⟨r,F,M,rnm⟩:=modT_of h j cD
   have f1:findA 0 (.int .i64 1) (esM D) 0=some (some (0,.agg (tvC r))):=by
     rw[M.e]
     have e:findA 0 (.int .i64 1) (esM (r::F)) 0=(match cellEq 0 (.int .i64 1) (.int .i64 r.n)with
       |some true=>some (some (0,.agg (tvC r)))
       |some false=>findA 0 (.int .i64 1) (esM F) (0+1)
       |none=>none):=rfl
     rw[e,M.n];rfl
   have ro:=M.ok r (by rw[M.e];simp)
   have o1:=ro.b.one
   have o2:=ro.n.one
   have ur:tvC r=[.int .i64 r.n,.int .i64 r.k,.int .i64 r.l,r.bv,.int .i64 r.p,r.nv,.str (ByteArray.mk (Array.mk []))]:=rfl
   rw[ur]at f1
   have rr:∃k,(cbL tabR).ic 110 [.ptr (H.length+4) 0] (G++[.cells (tvC r)])=some (.ret (.tup []),G++[.cells (tvC r)]++List.replicate k .dead):=rightR (k:=3+4*D.length+2*r.nm.length) ⟨f,D,r,F,H.length+4,H.length+3,k0,k1,hf,M,by rw[rnm];exact hk,rfl,by rw[la];exact q4 _,q3 _,rfl⟩
   obtain⟨k,rr⟩:=rr
   rw[ur]at rr
   rw[la]at m0 m4
   simp only[List.cons_append,List.nil_append]at m4
   have cI:=ceI 1
   have same:∀(i:Nat) (o:AObj) (L:List AObj),G[i]? =some o->(G++L).set i o=G++L:=fun i o L hi=>by
     obtain⟨h1,h2⟩:=List.getElem?_eq_some_iff.1 hi
     rw[List.set_append_left _ _ h1,<-h2,List.set_getElem_self]
   have s1:=fun L=>same _ _ L m1
   have s2:=fun L=>same _ _ L m2
   simp(disch:=omega)only[wk,tupled,↓reduceIte,reduceEqDiff,reduceEq,reduceAdd,reduceCtorEq,E2,E4,E5,E8,E28,E29,E30,n1,q0,q1,q2,q3,q4,m0,m1,m2,m3,m4,f1,cI,p0,z0,o1,o2,mustR,pnR,runE_none llR,rr,s1,s2,List.append_assoc]
   rw[ends_left_ret (caught_mret _ _ _ _)]
   simp(disch:=omega)only[wk,tupled,↓reduceIte,reduceEqDiff,reduceEq,reduceAdd,reduceCtorEq,E4,E5,q1,q2]
   intro i hi
   rw[List.getElem?_append_left (by omega)]
   exact gold i hi
 | cons t r=>
   rw[List.length_cons]at laT
   have n1:(pre.length:Int)<(T.length:Int):=by omega
   have d1:=tv_drop pre t r
   rw[<-a1]at d1
   have tm:t∈T:=by rw[a1];simp
   obtain⟨t',kk,l,bv,p,nv,bo,no,hb,hs,ho,ok',eqs⟩:=thingM h (t:=t) (by rw[<-hT];exact tm)
   have b1:=(okT' t tm).b.one
   have b2:=(okT' t tm).n.one
   have w1:=ok'.b.one
   have w2:=ok'.n.one
   have lt:=ls t (List.mem_cons_self ..)
   have tf:=rngT t tm
   have wl:IntKind.i64.wrap (last+1)=last+1:=wrap_i64 (by omega) (by omega)
   have mi:=fun H=>toR (min_px t.n (last+1) f.i H)
   rw[decide_eq_true ⟨by omega,tf⟩]at mi
   have fn:findA 0 (.int .i64 t.n) (esM D) 0=some none:=find_esn D 0 fun x hx e=>by
     have:x.n∈pre.map (·.n):=by rw[<-cD.n];exact List.mem_map.2 ⟨x,hx,rfl⟩
     rw[a1,List.map_append,List.map_cons]at srt
     have:=(List.pairwise_append.1 srt).2.2 _ this t.n (List.mem_cons_self ..)
     omega
   have cI:=ceI t.n
   have ut:tvC t=[.int .i64 t.n,.int .i64 t.k,.int .i64 t.l,t.bv,.int .i64 t.p,t.nv,.str (ByteArray.mk (Array.mk []))]:=rfl
   have ut':tvC t'=[.int .i64 t'.n,.int .i64 t'.k,.int .i64 t'.l,t'.bv,.int .i64 t'.p,t'.nv,.str (ByteArray.mk (Array.mk []))]:=rfl
   unfold y7 at hb hs
   rw[ut]at hb hs ho
   rw[ut']at ho
   simp(disch:=omega)only[wk,tupled,↓reduceIte,reduceEqDiff,reduceEq,reduceAdd,reduceCtorEq,E2,E4,E5,E8,E28,E29,E30,n1,d1,q0,q1,q2,q3,q4,p0,pk,z0,zk,bo,no,b1,b2,w1,w2,hb,hs,ho,mi,wl,fn,cI,mustR,List.append_assoc,Int.reduceToNat,Int.reduceAdd,Int.reduceSub,Int.reduceMul,Int.reduceNeg,Nat.reduceSub,Nat.reduceDiv]
   have em:esM D++[(.int .i64 t.n,.agg (tvC t'))]=esM (D++[t']):=by
     unfold esM;rw[List.map_append];simp[eqs.1]
   rw[ut']at em
   rw[em]
   have gs:∀(i:Nat) (L:List AObj),i≠H.length+3->i<G.length->((G++L).set (H.length+3) (.map (esM (D++[t']))))[i]? =G[i]? :=fun i L h1 h2=>by
     rw[List.getElem?_set_ne (by omega),List.getElem?_append_left h2]
   refine ih (pre++[t],r) _ _ _ (by simp) ⟨by simp[a1],⟨D++[t'],⟨?_, ?_⟩, ?_⟩,⟨t.n,by simp only[en,↓reduceIte,reduceEqDiff],by omega,tf,fun y hy=> ?_⟩,by simp only[en,↓reduceIte,reduceEqDiff,E2],by simp only[en,↓reduceIte,reduceEqDiff,E4],by simp only[en,↓reduceIte,reduceEqDiff,E5],by simp only[en,↓reduceIte,reduceEqDiff,E28],by simp only[en,↓reduceIte,reduceEqDiff,E29],by simp only[en,↓reduceIte,reduceEqDiff],rfl, ?_,fun i hi=> ?_, ?_, ?_, ?_, ?_⟩
   . dsimp only
     rw[List.map_append,List.map_append,cD.1]
     congr 1
     obtain⟨x1,x2,x3,x4,x5⟩:=eqs
     show [(t'.n,t'.k,t'.l,t'.p,t'.nm)]=[(t.n,t.k,t.l,t.p,t.nm)]
     rw[x1,x2,x3,x4,x5]
   . intro x hx
     rcases List.mem_append.1 hx with hx|hx
     . exact cD.2 x hx
     . rw[List.mem_singleton.1 hx];exact ok'
   . rw[List.getElem?_set_self (by simp;omega)]
   . rw[a1,List.map_append,List.map_cons]at srt
     exact(List.pairwise_cons.1 (List.pairwise_append.1 srt).2.1).1 _ (List.mem_map.2 ⟨y,hy,rfl⟩)
   . simp;omega
   . rw[gs i _ (by omega) (by omega)];exact gold i hi
   . rw[gs _ _ (by omega) (by omega)];exact m0
   . rw[gs _ _ (by omega) (by omega)];exact m1
   . rw[gs _ _ (by omega) (by omega)];exact m2
   . rw[gs _ _ (by omega) (by omega)];exact m4
theorem srising_px {l:List Int} {v:AV} (hv:IntR l v) (hl:l.length<=100000) (a b:Int) (H:Heap):pcx (cbL tab) 73 [v,.int .i64 a,.int .i64 b] H=some (.plain (.bool (risM a b none l))):=by
 have hh:=hv.hf
 have hu:=hv.un
 obtain⟨s,tk,rfl,hs,htk⟩:=hv
 have e2:lend (.sl s l.length (encs i64A l) tk)= .sl s l.length (encs i64A l) tk:=hu
 refine pcx_N rfl (pc_wp (fi:=c73) rfl ?_ (by simp[c73]) (by decide) ?_)
 . simp only[pcOn,List.map_cons,List.map_nil,e2,lend_int,c73,hfL,hh,Bool.true_and];rfl
 unfold c73
 rw[List.map_cons,List.map_cons,List.map_cons,List.map_nil,e2,lend_int,lend_int]
 obtain⟨R,hR⟩:∃R,R=risM a b none l:=⟨_,rfl⟩
 rw[<-hR]
 simp(disch:=omega)only[wk,tupled,↓reduceIte,reduceEqDiff,reduceEq,reduceAdd,reduceCtorEq]
 refine loop_ind (fun(x:List Int×List Int) E df H=>l=x.1++x.2/\R=risM a b x.1.getLast? x.2/\E 0= .sl s l.length (encs i64A l) tk/\E 1= .int .i64 a/\E 2= .int .i64 b/\E 9= .sl s l.length (encs i64A l) tk/\E 10= .int .i64 ((l.length:Nat):Int)/\E 11= .int .i64 ((x.1.length:Nat):Int)/\df=[])
   (fun x=>x.2.length) ([],l) (by decide) (.inl rfl) ⟨rfl,hR,rfl,rfl,rfl,rfl,rfl,rfl,rfl⟩ ?_
 intro ⟨pre,suf⟩ E df H ih hP
 obtain⟨a1,a2,E0,E1,E2,E9,E10,E7,hdf⟩:=hP
 dsimp only at a1 a2 E7
 subst hdf
 have la:l.length=pre.length+suf.length:=by rw[a1,List.length_append]
 cases suf with
 | nil=>
   have n1:¬(pre.length:Int)<(l.length:Int):=by rw[la];simp
   have a2:R=true:=a2
   rw[a2]
   simp(disch:=omega)only[wk,tupled,↓reduceIte,reduceEqDiff,reduceEq,reduceAdd,reduceCtorEq,E0,E1,E2,E9,E10,E7,n1,purify,unownT,lend,unown,AV.hf,hfL]
 | cons x r=>
   rw[List.length_cons]at la
   have n1:(pre.length:Int)<(l.length:Int):=by omega
   obtain rfl:=hs (by rw[a1];simp)
   have d1:=i_drop pre x r
   rw[<-a1]at d1
   rw[risM_cons]at a2
   by_cases h1:a<=x
   case neg=>
     have h1':x<a:=by omega
     rw[decide_eq_false (fun h=>h1 h.1),Bool.false_and]at a2
     rw[a2]
     simp(disch:=omega)only[wk,tupled,↓reduceIte,reduceEqDiff,reduceEq,reduceAdd,reduceCtorEq,E0,E1,E2,E9,E10,E7,n1,d1,h1',runG_un,gp_un,purify,unownT,lend,unown,AV.hf,hfL]
   have h1':¬x<a:=by omega
   by_cases h2:x<b
   case neg=>
     have h2':b<=x:=by omega
     rw[decide_eq_false (fun h=>h2 h.2.1),Bool.false_and]at a2
     rw[a2]
     simp(disch:=omega)only[wk,tupled,↓reduceIte,reduceEqDiff,reduceEq,reduceAdd,reduceCtorEq,E0,E1,E2,E9,E10,E7,n1,d1,h1',h2',runG_un,gp_un,purify,unownT,lend,unown,AV.hf,hfL]
   have h2':¬b<=x:=by omega
   rcases List.eq_nil_or_concat pre with rfl|⟨p,z,rfl⟩
   . have n3:¬(0:Int)<0:=by omega
     rw[List.length_nil]at d1
     have E7:E 11= .int .i64 0:=E7
     have q2:(0:Int)<(l.length:Int):=n1
     rw[decide_eq_true ⟨h1,h2,fun y e=>by cases e⟩,Bool.true_and]at a2
     have d0:(encs i64A l)[0]? =some (.int .i64 x):=by
       have d1:encs i64A l= .int .i64 x::encs i64A r:=by rw[<-d1];rfl
       rw[d1];rfl
     simp(disch:=omega)only[wk,tupled,↓reduceIte,reduceEqDiff,reduceEq,reduceAdd,reduceCtorEq,E0,E1,E2,E9,E10,E7,q2,n3,d0,h1',h2',runG_un,gp_un,Int.reduceToNat,Int.reduceAdd,Int.reduceSub,Int.reduceMul,Int.reduceNeg,Nat.reduceSub,Nat.reduceDiv]
     exact ih ([]++[x],r) _ _ _ (by simp) ⟨by simp[a1],by show R=risM a b (some x) r;exact a2,by simp only[en,↓reduceIte,reduceEqDiff,E0],by simp only[en,↓reduceIte,reduceEqDiff,E1],by simp only[en,↓reduceIte,reduceEqDiff,E2],by simp only[en,↓reduceIte,reduceEqDiff,E9],by simp only[en,↓reduceIte,reduceEqDiff,E10],by simp only[en,↓reduceIte,reduceEqDiff];rfl,rfl⟩
   . simp only[List.concat_eq_append]at*
     have lp:(p++[z]).length=p.length+1:=by simp
     have d2:=i_drop p z (x::r)
     have a1':l=p++z::x::r:=by rw[a1];simp
     rw[<-a1']at d2
     rw[lp]at E7 n1 d1
     rw[lastI]at a2
     have n1:(p.length:Int)+1<(l.length:Int):=n1
     have E7:E 11= .int .i64 ((p.length:Int)+1):=E7
     have n3:(0:Int)<(p.length:Int)+1:=by omega
     have p1:(0:Int)<=(p.length:Int)+1:=by omega
     have tn:((p.length:Int)+1).toNat=p.length+1:=by omega
     have s1:(p.length:Int)+1-1=(p.length:Int):=by omega
     have n5:(p.length:Int)<(l.length:Int):=by omega
     by_cases h3:z<x
     . have h3':¬x<=z:=by omega
       rw[decide_eq_true ⟨h1,h2,fun y e=>by cases e;exact h3⟩,Bool.true_and]at a2
       simp(disch:=omega)only[wk,tupled,↓reduceIte,reduceEqDiff,reduceEq,reduceAdd,reduceCtorEq,E0,E1,E2,E9,E10,E7,n1,n3,p1,tn,d1,d2,s1,n5,h1',h2',h3',runG_un,gp_un,Int.reduceToNat,Int.reduceAdd,Int.reduceSub,Int.reduceMul,Int.reduceNeg,Nat.reduceSub,Nat.reduceDiv]
       exact ih (p++[z]++[x],r) _ _ _ (by simp) ⟨by simp[a1],by dsimp only;rw[lastI];exact a2,by simp only[en,↓reduceIte,reduceEqDiff,E0],by simp only[en,↓reduceIte,reduceEqDiff,E1],by simp only[en,↓reduceIte,reduceEqDiff,E2],by simp only[en,↓reduceIte,reduceEqDiff,E9],by simp only[en,↓reduceIte,reduceEqDiff,E10],by simp only[en,↓reduceIte,reduceEqDiff],rfl⟩
     . have h3':x<=z:=by omega
       rw[decide_eq_false (fun h=>h3 (h.2.2 z rfl)),Bool.false_and]at a2
       rw[a2]
       simp(disch:=omega)only[wk,tupled,↓reduceIte,reduceEqDiff,reduceEq,reduceAdd,reduceCtorEq,E0,E1,E2,E9,E10,E7,n1,n3,p1,tn,d1,d2,s1,n5,h1',h2',h3',runG_un,gp_un,Int.reduceToNat,Int.reduceAdd,Int.reduceSub,Int.reduceMul,Int.reduceNeg,Nat.reduceSub,Nat.reduceDiv,purify,unownT,lend,unown,AV.hf,hfL]
structure Img (f:Frm) (rt:Tv) (ns bl rl:List Int) (bv rv:AV):Prop where
 fo:okF f
 ro:RootT rt
 j:JV f rt.nm ns
 b:IntR bl bv
 r:IntR rl rv
 lb:bl.length<=80
 lr:rl.length<=80
 b64:f.b<=64
theorem Img.lend {f:Frm} {rt:Tv} {ns bl rl:List Int} {bv rv:AV} (I:Img f rt ns bl rl bv rv):lend (.agg (imgC f (mkT rt ns) bv rv))= .agg (imgC f (mkT rt ns) bv rv):=by
 show AV.agg [_,_,_,_,_,_,_,_,_,_,_,unown bv,unown rv]=_
 rw[I.b.un,I.r.un];rfl
theorem Img.hf {f:Frm} {rt:Tv} {ns bl rl:List Int} {bv rv:AV} (I:Img f rt ns bl rl bv rv):hfL [.agg (imgC f (mkT rt ns) bv rv)]=true:=by
 have hhT:=okT_hf (mkT_ok I.ro ns)
 simp[imgC,hfL,AV.hf,hhT,I.b.hf,I.r.hf,Tk.hf]
theorem sof_px {f:Frm} {rt:Tv} {ns bl rl:List Int} {bv rv:AV} (I:Img f rt ns bl rl bv rv) (H:Heap):
   pcx (cbL tabR) 38 [.agg (imgC f (mkT rt ns) bv rv)] H=some (.plain (.tup [.agg (if okI f bl rl=true then imgC f (mkT rt ns) bv rv else z13),.bool (okI f bl rl)])):=by
 have hf:=I.fo
 refine pcx_N rfl (pc_wp6 (fi:=c38) rfl ?_ (by simp[c38]) (by decide) ?_)
 . simp only[pcOn,List.map_cons,List.map_nil,I.lend,c38]
   exact I.hf
 unfold c38
 rw[List.map_cons,List.map_nil,I.lend]
 have r1:=fun a b H=>toR (srising_px I.b (by have:=I.lb;omega) a b H)
 have r2:=fun a b H=>toR (srising_px I.r (by have:=I.lr;omega) a b H)
 have o1:=I.b.one
 have o2:=I.r.one
 have wr:IntKind.i64.wrap (f.r+1)=f.r+1:=by obtain⟨_,_,_,_,_,x1,x2,_⟩:=hf;exact wrap_i64 (by omega) (by omega)
 have pd1:=fun H=>img_pic (mkT_ok I.ro ns) (mkT_un I.ro ns) I.b I.r (f:=f) H
 have mo:=fun H=>mOf_ic hf I.ro I.j (k0:=5) (k1:=6) ⟨by decide,by decide⟩ ⟨by decide,by decide⟩ (.inr ⟨rfl,rfl⟩) H
 have pn:∀(v w:AV) (H:Heap),pcx (cbL tabR) 72 [v,w] H=none:=fun v w H=>pcx_none rfl (pc_none (fi:=c72) rfl rfl)
 have ll:(cbL tabR).lent 72=false:=rfl
 generalize mkT rt ns=T at*
 have la:layA f 5 6=[.int .i64 f.b,.int .i64 f.i,.int .i64 f.r,.int .i64 f.t,.int .u64 5,.int .u64 6,.int .i64 9,.int .i64 (9+f.i/4),.int .i64 (9+f.i/4+f.r/4),.int .i64 (9+f.i/4+f.r/4+1)]:=rfl
 have im:imgC f T bv rv=[.int .i64 f.b,.int .i64 f.i,.int .i64 f.r,.int .i64 f.t,.int .u64 5,.int .u64 6,.int .i64 9,.int .i64 (9+f.i/4),.int .i64 (9+f.i/4+f.r/4),.int .i64 (9+f.i/4+f.r/4+1),.sl 7 T.length (encs tvC T) .ro,bv,rv]:=rfl
 rw[la]at mo
 rw[im]at pd1 ⊢
 unfold okI z13
 obtain⟨G,mg,mk⟩:=mo [.cells (imgC f T bv rv),.cells z13]
 rw[im]at mg mk
 unfold z13 at mg mk
 have m0:=mk 0 (by simp)
 have m1:=mk 1 (by simp)
 simp only[List.getElem?_cons_zero,List.getElem?_cons_succ]at m0 m1
 have gs:∀o,(G.set 1 o)[1]? =some o:=fun o=>by rw[List.getElem?_set_self ((List.getElem?_eq_some_iff.1 m1).1)]
 have pz:∀H,purD (some (.ret (.tup [.agg [.int .i64 0,.int .i64 0,.int .i64 0,.int .i64 0,.int .u64 0,.int .u64 0,.int .i64 0,.int .i64 0,.int .i64 0,.int .i64 0,.sl 0 0 [] .z,.sl 0 0 [] .z,.sl 0 0 [] .z],.bool false]),H))=some (.plain (.tup [.agg [.int .i64 0,.int .i64 0,.int .i64 0,.int .i64 0,.int .u64 0,.int .u64 0,.int .i64 0,.int .i64 0,.int .i64 0,.int .i64 0,.sl 0 0 [] .z,.sl 0 0 [] .z,.sl 0 0 [] .z],.bool false])):=fun H=>rfl
 cases h1:risM (9+f.i/4+f.r/4+1) f.b none bl with
 | false=>
   simp(disch:=omega)only[wk,tupled,↓reduceIte,reduceEqDiff,reduceEq,reduceAdd,reduceCtorEq,pn,runE_none ll,mg,m0,m1,o1,o2,r1,r2,h1,wr,runG_un,gp_un,gs,Bool.and_self,Bool.and_false,Bool.false_and,Bool.and_true]
   rw[ret_scp_goto rfl]
   refine ret_again (by decide) (.inl rfl) ?_
   simp(disch:=omega)only[wk,tupled,↓reduceIte,reduceEqDiff,reduceEq,reduceAdd,reduceCtorEq,m1,gs,pz,Bool.false_and]
 | true=>
   cases h2:risM 1 (f.r+1) none rl with
   | false=>
     simp(disch:=omega)only[wk,tupled,↓reduceIte,reduceEqDiff,reduceEq,reduceAdd,reduceCtorEq,pn,runE_none ll,mg,m0,m1,o1,o2,r1,r2,h1,h2,wr,runG_un,gp_un,gs,Bool.and_self,Bool.and_false,Bool.false_and,Bool.and_true]
     rw[ret_scp_goto rfl]
     refine ret_again (by decide) (.inl rfl) ?_
     simp(disch:=omega)only[wk,tupled,↓reduceIte,reduceEqDiff,reduceEq,reduceAdd,reduceCtorEq,m1,gs,pz,Bool.and_false]
   | true=>
     simp(disch:=omega)only[wk,tupled,↓reduceIte,reduceEqDiff,reduceEq,reduceAdd,reduceCtorEq,pn,runE_none ll,mg,m0,m1,o1,o2,r1,r2,h1,h2,wr,runG_un,gp_un,gs,Bool.and_self,Bool.and_false,Bool.false_and,Bool.and_true,pd1]
end Go.Proofs.YtephfpdnhdpmkaaGreatDoor
namespace Go.Spc
open Go Go.Am
def wN (p:Nat->Bool):Nat->Nat
 |0=>0
 |n+1=>wN p n+(if p n then 2^n else 0)
theorem wN_zero:∀n,wN (fun _=>false) n=0
 |0=>rfl
 |n+1=>by rw[wN,wN_zero n];rfl
def wL (p:Nat->Bool) (n:Nat):List Int:=(List.range n).map fun k=>((wN (fun j=>p (64*k+j)) 64:Nat):Int)
theorem wL_zero (n:Nat):wL (fun _=>false) n=List.replicate n 0:=by
 unfold wL
 rw[List.map_congr_left (g:=fun _=>(0:Int)) fun k _=>by rw[wN_zero];rfl]
 rw[List.map_const',List.length_range]
end Go.Spc
namespace Go.Proofs.YtephfpdnhdpmkaaGreatDoor
open Go Go.Am Go.Spc Go.Rec
structure BM (G:Heap) (mo id n:Nat) (many:Int) (p:Nat->Bool):Prop where
 m:G[mo]? =some (.cells [.msl 1 id 0 n,.int .i64 many])
 w:G[id]? =some (.cells (encs u64A (wL p n)))
 lo:1<=many
 hi:many<=64*n
 few:n<=64
theorem tm {k:Nat}:((k:Nat):Int) % 64=((k % 64:Nat):Int):=by omega
theorem BM.ne {G:Heap} {mo id n:Nat} {many:Int} {p:Nat->Bool} (B:BM G mo id n many p):mo≠id:=fun e=>by
 have h:=B.m
 rw[e,B.w]at h
 injection h with h
 injection h with h
 cases hl:wL p n with
 |nil=>rw[hl]at h;cases h
 |cons x l=>rw[hl]at h;cases h
theorem BM.set {G:Heap} {mo id n:Nat} {many:Int} {p q:Nat->Bool} (B:BM G mo id n many p):BM (G.set id (.cells (encs u64A (wL q n)))) mo id n many q:=by
 have hne:=B.ne
 obtain⟨m,w,lo,hi,few⟩:=B
 exact⟨by rw[List.getElem?_set_ne (Ne.symm hne)];exact m,List.getElem?_set_self (List.getElem?_eq_some_iff.1 w).1,lo,hi,few⟩
theorem rep0 (n:Nat):repL n [AV.int .u64 0]=encs u64A (wL (fun _=>false) n):=by
 rw[wL_zero]
 induction n with
 |zero=>rfl
 |succ n ih=>rw[List.replicate_succ,encs_cons,<-ih];rfl
theorem risM_mem {a b:Int}:∀{l:List Int} {p:Option Int},risM a b p l=true->(∀x∈l,a<=x/\x<b/\∀y,p=some y->y<x)/\l.Pairwise (· < ·)
 |[],_,_=>⟨by simp,.nil⟩
 | x::r,p,h=>by
   rw[risM_cons,Bool.and_eq_true]at h
   obtain⟨h1,h2⟩:=h
   obtain⟨x1,x2,x3⟩:=of_decide_eq_true h1
   obtain⟨i1,i2⟩:=risM_mem h2
   refine⟨fun y hy=> ?_,List.pairwise_cons.2 ⟨fun y hy=>(i1 y hy).2.2 x rfl,i2⟩⟩
   rcases List.mem_cons.1 hy with rfl|hy
   . exact⟨x1,x2,x3⟩
   . obtain⟨y1,y2,y3⟩:=i1 y hy
     exact⟨y1,y2,fun z hz=>by have:=x3 z hz;have:=y3 x rfl;omega⟩
def dF (f:Frm):Int:=9+f.i/4+f.r/4+1
def pB (f:Frm) (bl:List Int) (i:Nat):Bool:=decide ((i:Int)<dF f)||decide ((i:Int)∈bl)
theorem BM.congr {G:Heap} {mo id n:Nat} {many:Int} {p q:Nat->Bool} (B:BM G mo id n many p) (h:∀i,p i=q i):BM G mo id n many q:=by
 obtain rfl:p=q:=funext h
 exact B
def rngM (P:Int->Bool):Int->Nat->List Int
 |_,0=>[]
 |a,k+1=>if P a then a::rngM P (a+1) k else rngM P (a+1) k
theorem rngM_snoc (P:Int->Bool):∀(k:Nat) (a:Int),rngM P a (k+1)=rngM P a k++(if P (a+k)then [a+k] else [])
 | 0,a=>by
   show(if P a then [a] else [])=[]++(if P (a+(0:Nat))then [a+(0:Nat)] else [])
   simp
 | k+1,a=>by
   have ih:=rngM_snoc P k (a+1)
   rw[show a+1+(k:Int)=a+((k+1:Nat):Int)by omega]at ih
   rw[rngM,ih,rngM]
   split<;>simp
theorem rngM_len (P:Int->Bool):∀(k:Nat) (a:Int),(rngM P a k).length<=k
 |0,_=>by simp[rngM]
 | k+1,a=>by
   have:=rngM_len P k (a+1)
   rw[rngM]
   split<;>simp<;>omega
def OwnI (G:Heap) (v:AV) (l:List Int):Prop:=Own G 1 v l.length (encs i64A l)
def freeL (f:Frm) (bl:List Int):List Int:=rngM (fun b=> !pB f bl b.toNat) (dF f) (f.b-dF f).toNat
theorem BM.of {G G':Heap} {mo id n:Nat} {many:Int} {p:Nat->Bool} (B:BM G mo id n many p) (h:∀i,i<G.length->G'[i]? =G[i]?):BM G' mo id n many p:=by
 obtain⟨m,w,lo,hi,few⟩:=B
 exact⟨by rw[h _ (List.getElem?_eq_some_iff.1 m).1];exact m,by rw[h _ (List.getElem?_eq_some_iff.1 w).1];exact w,lo,hi,few⟩
theorem IntR.lend {l:List Int} {v:AV} (h:IntR l v):lend v=v:=by
 obtain⟨s,tk,rfl,_,ht⟩:=h
 exact hfT ht _ _ _
theorem has_px {l:List Int} {v:AV} (hv:IntR l v) (hl:l.length<=100000) (x:Int) (H:Heap):pcx (cbL tab) 59 [v,.int .i64 x] H=some (.plain (.bool (decide (x∈l)))):=by
 have hh:=hv.hf
 have e2:=hv.lend
 obtain⟨s,tk,rfl,hs,htk⟩:=hv
 refine pcx_N rfl (pc_wp (fi:=c59) rfl ?_ (by simp[c59]) (by decide) ?_)
 . simp only[pcOn,List.map_cons,List.map_nil,e2,lend_int,c59,hfL,hh,Bool.true_and];rfl
 unfold c59
 rw[List.map_cons,List.map_cons,List.map_nil,e2,lend_int]
 simp(disch:=omega)only[wk,tupled,↓reduceIte,reduceEqDiff,reduceEq,reduceAdd,reduceCtorEq]
 refine loop_ind (fun(y:List Int×List Int) E df H=>l=y.1++y.2/\x∉y.1/\E 0= .sl s l.length (encs i64A l) tk/\E 1= .int .i64 x/\E 5= .int .i64 ((y.1.length:Nat):Int)/\df=[])
   (fun y=>y.2.length) ([],l) (by decide) (.inl rfl) ⟨rfl,by simp,rfl,rfl,rfl,rfl⟩ ?_
 intro ⟨pre,suf⟩ E df H ih hP
 obtain⟨a1,a2,E0,E1,E5,hdf⟩:=hP
 dsimp only at a1 a2 E5
 subst hdf
 have la:l.length=pre.length+suf.length:=by rw[a1,List.length_append]
 cases suf with
 | nil=>
   have n1:¬(pre.length:Int)<(l.length:Int):=by rw[la];simp
   have e:decide (x∈l)=false:=by rw[a1,List.append_nil];exact decide_eq_false a2
   rw[e]
   simp(disch:=omega)only[wk,tupled,↓reduceIte,reduceEqDiff,reduceEq,reduceAdd,reduceCtorEq,E0,E1,E5,n1,purify,unownT,lend,unown,AV.hf,hfL]
 | cons y r=>
   rw[List.length_cons]at la
   have n1:(pre.length:Int)<(l.length:Int):=by omega
   obtain rfl:=hs (by rw[a1];simp)
   have d1:=i_drop pre y r
   rw[<-a1]at d1
   by_cases h:y=x
   . have e:decide (x∈l)=true:=decide_eq_true (by rw[a1,<-h];simp)
     rw[e]
     simp(disch:=omega)only[wk,tupled,↓reduceIte,reduceEqDiff,reduceEq,reduceAdd,reduceCtorEq,E0,E1,E5,n1,d1,h,purify,unownT,lend,unown,AV.hf,hfL]
   . simp(disch:=omega)only[wk,tupled,↓reduceIte,reduceEqDiff,reduceEq,reduceAdd,reduceCtorEq,E0,E1,E5,n1,d1,h]
     exact ih (pre++[y],r) _ _ _ (by simp) ⟨by simp[a1],by simp[a2,Ne.symm h],by simp only[en,↓reduceIte,reduceEqDiff,E0],by simp only[en,↓reduceIte,reduceEqDiff,E1],by simp only[en,↓reduceIte,reduceEqDiff],rfl⟩
def ixM:List Int->Int->Int->Int
 |[],_,_=> -1
 |y::r,x,i=>if x=y then i else ixM r x (i+1)
theorem rFree_px {f:Frm} {rt:Tv} {ns bl rl:List Int} {bv rv:AV} (I:Img f rt ns bl rl bv rv) (H:Heap):
   pcx (cbL tab) 29 [.agg (imgC f (mkT rt ns) bv rv)] H=some (prRow 1 i64A (rngM (fun b=> !decide (b∈bl)) (dF f) (f.b-dF f).toNat)):=by
 have hs:=fun x H=>has_px I.b (by have:=I.lb;omega) x H
 have hon:pcOn c29 [.agg (imgC f (mkT rt ns) bv rv)]=true:=by
   simp only[pcOn,List.map_cons,List.map_nil,I.lend,c29]
   exact I.hf
 have o1:=I.b.one
 have o2:=I.r.one
 have li:=I.lend
 have hf:=I.fo
 unfold okF at hf
 have b64:=I.b64
 refine pcx_N rfl (pc_wp (fi:=c29) rfl hon (by simp[c29]) (by decide) ?_)
 unfold c29
 rw[List.map_cons,List.map_nil,li]
 clear hon li I
 generalize mkT rt ns=T at*
 have im:imgC f T bv rv=[.int .i64 f.b,.int .i64 f.i,.int .i64 f.r,.int .i64 f.t,.int .u64 5,.int .u64 6,.int .i64 9,.int .i64 (9+f.i/4),.int .i64 (9+f.i/4+f.r/4),.int .i64 (dF f),.sl 7 T.length (encs tvC T) .ro,bv,rv]:=rfl
 obtain⟨C,hC⟩:∃C,C=imgC f T bv rv:=⟨_,rfl⟩
 obtain⟨k,hk⟩:∃k,k=(f.b-dF f).toNat:=⟨_,rfl⟩
 have hd:0<=dF f:=by unfold dF;omega
 have hdk:dF f+(k:Int)=f.b:=by unfold dF at*;omega
 rw[<-hk]
 rw[im]at hC ⊢
 simp(disch:=omega)only[wk,tupled,↓reduceIte,reduceEqDiff,reduceEq,reduceAdd,reduceCtorEq,o1,o2]
 refine loop_ind (fun(i:Nat) E df G=>i<=k/\E 1= .ptr 0 0/\G[0]? =some (.cells C)/\OwnI G (E 3) (rngM (fun b=> !decide (b∈bl)) (dF f) i)/\(rngM (fun b=> !decide (b∈bl)) (dF f) i=[]->E 3= .sl 0 0 [] .z)/\E 4= .int .i64 (dF f+i)/\df=[])
   (fun i=>k-i) 0 (by decide) (.inl rfl) ⟨Nat.zero_le _,rfl,by rw[hC];rfl,.inl ⟨.inl rfl,rfl,rfl⟩,fun _=>rfl,by simp only[en,↓reduceIte,reduceEqDiff];simp,rfl⟩ ?_
 intro i E df G ih hP
 obtain⟨hi,E1,G0,E3,E3z,E4,hdf⟩:=hP
 subst hdf
 have G0':=G0
 rw[hC]at G0
 by_cases hik:i<k
 . have n1:dF f+(i:Int)<f.b:=by omega
   have w1:IntKind.i64.wrap (dF f+(i:Int)+1)=dF f+((i+1:Nat):Int):=by rw[wrap_i64 (by omega) (by omega)];omega
   have sn:=rngM_snoc (fun b=> !decide (b∈bl)) i (dF f)
   by_cases hp:dF f+i∈bl
   . have hm:decide (dF f+i∈bl)=true:=decide_eq_true hp
     rw[hm,Bool.not_true,if_neg Bool.false_ne_true,List.append_nil]at sn
     simp(disch:=omega)only[wk,tupled,↓reduceIte,reduceEqDiff,reduceEq,reduceAdd,reduceCtorEq,E1,E4,G0,n1,hs,hm,w1]
     refine ih (i+1) _ _ _ (by omega) ⟨hik,by simp only[en,↓reduceIte,reduceEqDiff,E1],G0', ?_, ?_,by simp only[en,↓reduceIte,reduceEqDiff],rfl⟩
     . rw[sn];simp only[en,↓reduceIte,reduceEqDiff];exact E3
     . rw[sn];simp only[en,↓reduceIte,reduceEqDiff];exact E3z
   . have hm:decide (dF f+i∈bl)=false:=decide_eq_false hp
     rw[hm,Bool.not_false,if_pos rfl]at sn
     have rl:=rngM_len (fun b=> !decide (b∈bl)) i (dF f)
     simp(disch:=omega)only[wk,tupled,↓reduceIte,reduceEqDiff,reduceEq,reduceAdd,reduceCtorEq,E1,E4,G0,n1,hs,hm,w1]
     refine runX_app E3 (by decide) (by omega) (by omega) (by decide) rfl rfl (fun H2 q1 q2 q3=> ?_)
     have G2:=q2.cells E3 rfl G0' (by intro s h;cases h)
     simp(disch:=omega)only[wk,tupled,↓reduceIte,reduceEqDiff,reduceEq,reduceAdd,reduceCtorEq,E1,E4,w1]
     refine ih (i+1) _ _ _ (by omega) ⟨hik,by simp only[en,↓reduceIte,reduceEqDiff,E1],G2, ?_, ?_,by simp only[en,↓reduceIte,reduceEqDiff],rfl⟩
     . simp only[en,↓reduceIte,reduceEqDiff]
       rw[sn]
       unfold OwnI
       rw[List.length_append,encs_append]
       exact q1
     . rw[sn];intro h;simp at h
 . have e:i=k:=by omega
   subst e
   have n1:¬dF f+(i:Int)<f.b:=by omega
   simp(disch:=omega)only[wk,tupled,↓reduceIte,reduceEqDiff,reduceEq,reduceAdd,reduceCtorEq,E1,E4,G0,n1]
   exact purify_row (fun _=>rfl) E3 (fun h s n c e=>by rw[E3z h]at e;cases e)
theorem OwnI.shape {G:Heap} {v:AV} {l:List Int} (h:OwnI G v l):∃s tk,v= .sl s l.length (encs i64A l) tk/\(l≠[]->s=1):=by
 rcases h with⟨h1,h2,h3⟩|⟨h0,g,rfl,hg⟩
 . have:l=[]:=List.length_eq_zero_iff.1 h2
   subst this
   rcases h1 with rfl|rfl
   . exact⟨_,_,rfl,fun h=>absurd rfl h⟩
   . exact⟨_,_,rfl,fun _=>rfl⟩
 . exact⟨_,_,rfl,fun _=>rfl⟩
end Go.Proofs.YtephfpdnhdpmkaaGreatDoor
namespace Go.Proofs.YtephfpdnhdpmkaaGreatDoor
open Go Go.Am Go.Spc
def imgK (f:Frm) (k0 k1:Int) (T:List Tv) (bv rv:AV):List AV:=[.int .i64 f.b,.int .i64 f.i,.int .i64 f.r,.int .i64 f.t,.int .u64 k0,.int .u64 k1,.int .i64 9,.int .i64 (9+f.i/4),.int .i64 (9+f.i/4+f.r/4),.int .i64 (9+f.i/4+f.r/4+1),.sl 7 T.length (encs tvC T) .ro,bv,rv]
theorem lendK_img {f:Frm} {rt:Tv} {ns bl rl:List Int} {bv rv:AV} (I:Img f rt ns bl rl bv rv) {k0 k1:Int}:lend (.agg (imgK f k0 k1 (mkT rt ns) bv rv))= .agg (imgK f k0 k1 (mkT rt ns) bv rv):=by
 show AV.agg [_,_,_,_,_,_,_,_,_,_,_,unown bv,unown rv]=_
 rw[I.b.un,I.r.un];rfl
theorem hfK_img {f:Frm} {rt:Tv} {ns bl rl:List Int} {bv rv:AV} (I:Img f rt ns bl rl bv rv) {k0 k1:Int}:hfL [.agg (imgK f k0 k1 (mkT rt ns) bv rv)]=true:=by
 have hhT:=okT_hf (mkT_ok I.ro ns)
 simp[imgK,hfL,AV.hf,hhT,I.b.hf,I.r.hf,Tk.hf]
theorem imgK_pic {k0 k1:Int} {f:Frm} {T:List Tv} (hT:okT T) (hu:T.map un=T) {bl rl:List Int} {bv rv:AV} (hb:IntR bl bv) (hr:IntR rl rv) (H:Heap):purD (some (.ret (.tup [.agg (imgK f k0 k1 T bv rv),.bool true]),H))=some (.plain (.tup [.agg (imgK f k0 k1 T bv rv),.bool true])):=by
 have hk:∀{l:List Int} {v:AV},IntR l v->deep1 (lendK H 3 v)=v:=by
   rintro l v ⟨s,tk,rfl,_,ht⟩
   have e:∀l:List Int,(encs i64A l).map unown=encs i64A l:=by
     intro l
     induction l with
     |nil=>rfl
     |cons x l ih=>rw[encs_cons,List.map_append,ih];rfl
   have e:=e l
   show unown (.sl s l.length ((encs i64A l).map unown) tk)=_
   rw[e]
   cases tk<;>first|rfl|cases ht
 have e1:picV H (.tup [.agg (imgK f k0 k1 T bv rv),.bool true])= .tup [.agg (imgK f k0 k1 T bv rv),.bool true]:=by
   have e:(AV.sl 7 T.length ((encs tvC T).map unown) .ro)= .sl 7 T.length (encs tvC T) .ro:=by rw[un_cells,hu]
   show AV.tup [.agg [_,_,_,_,_,_,_,_,_,_,.sl 7 T.length ((encs tvC T).map unown) .ro,deep1 (lendK H 3 bv),deep1 (lendK H 3 rv)],.bool true]=_
   rw[e,hk hb,hk hr];rfl
 simp only[purD,e1]
 rw[if_pos]
 have h1:=okT_hf hT
 have h2:=hb.hf
 have h3:=hr.hf
 simp[AV.hf,hfL,imgK,h1,h2,h3]
 rfl
theorem sofK_px {f:Frm} {rt:Tv} {ns bl rl:List Int} {bv rv:AV} (I:Img f rt ns bl rl bv rv) {k0 k1:Int} (u0:U64 k0) (u1:U64 k1) (hk:rt.nm=[]∨k0=5/\k1=6) (H:Heap):
   pcx (cbL tabR) 38 [.agg (imgK f k0 k1 (mkT rt ns) bv rv)] H=some (.plain (.tup [.agg (if okI f bl rl=true then imgK f k0 k1 (mkT rt ns) bv rv else z13),.bool (okI f bl rl)])):=by
 have hf:=I.fo
 refine pcx_N rfl (pc_wp6 (fi:=c38) rfl ?_ (by simp[c38]) (by decide) ?_)
 . simp only[pcOn,List.map_cons,List.map_nil,(lendK_img I),c38]
   exact hfK_img I
 unfold c38
 rw[List.map_cons,List.map_nil,(lendK_img I)]
 have r1:=fun a b H=>toR (srising_px I.b (by have:=I.lb;omega) a b H)
 have r2:=fun a b H=>toR (srising_px I.r (by have:=I.lr;omega) a b H)
 have o1:=I.b.one
 have o2:=I.r.one
 have wr:IntKind.i64.wrap (f.r+1)=f.r+1:=by obtain⟨_,_,_,_,_,x1,x2,_⟩:=hf;exact wrap_i64 (by omega) (by omega)
 have pd1:=fun H=>imgK_pic (k0:=k0) (k1:=k1) (mkT_ok I.ro ns) (mkT_un I.ro ns) I.b I.r (f:=f) H
 have mo:=fun H=>mOf_ic hf I.ro I.j (k0:=k0) (k1:=k1) u0 u1 hk H
 have pn:∀(v w:AV) (H:Heap),pcx (cbL tabR) 72 [v,w] H=none:=fun v w H=>pcx_none rfl (pc_none (fi:=c72) rfl rfl)
 have ll:(cbL tabR).lent 72=false:=rfl
 generalize mkT rt ns=T at*
 have la:layA f k0 k1=[.int .i64 f.b,.int .i64 f.i,.int .i64 f.r,.int .i64 f.t,.int .u64 k0,.int .u64 k1,.int .i64 9,.int .i64 (9+f.i/4),.int .i64 (9+f.i/4+f.r/4),.int .i64 (9+f.i/4+f.r/4+1)]:=rfl
 have im:imgK f k0 k1 T bv rv=[.int .i64 f.b,.int .i64 f.i,.int .i64 f.r,.int .i64 f.t,.int .u64 k0,.int .u64 k1,.int .i64 9,.int .i64 (9+f.i/4),.int .i64 (9+f.i/4+f.r/4),.int .i64 (9+f.i/4+f.r/4+1),.sl 7 T.length (encs tvC T) .ro,bv,rv]:=rfl
 rw[la]at mo
 rw[im]at pd1 ⊢
 unfold okI z13
 obtain⟨G,mg,mk⟩:=mo [.cells (imgK f k0 k1 T bv rv),.cells z13]
 rw[im]at mg mk
 unfold z13 at mg mk
 have m0:=mk 0 (by simp)
 have m1:=mk 1 (by simp)
 simp only[List.getElem?_cons_zero,List.getElem?_cons_succ]at m0 m1
 have gs:∀o,(G.set 1 o)[1]? =some o:=fun o=>by rw[List.getElem?_set_self ((List.getElem?_eq_some_iff.1 m1).1)]
 have pz:∀H,purD (some (.ret (.tup [.agg [.int .i64 0,.int .i64 0,.int .i64 0,.int .i64 0,.int .u64 0,.int .u64 0,.int .i64 0,.int .i64 0,.int .i64 0,.int .i64 0,.sl 0 0 [] .z,.sl 0 0 [] .z,.sl 0 0 [] .z],.bool false]),H))=some (.plain (.tup [.agg [.int .i64 0,.int .i64 0,.int .i64 0,.int .i64 0,.int .u64 0,.int .u64 0,.int .i64 0,.int .i64 0,.int .i64 0,.int .i64 0,.sl 0 0 [] .z,.sl 0 0 [] .z,.sl 0 0 [] .z],.bool false])):=fun H=>rfl
 cases h1:risM (9+f.i/4+f.r/4+1) f.b none bl with
 | false=>
   simp(disch:=omega)only[wk,tupled,↓reduceIte,reduceEqDiff,reduceEq,reduceAdd,reduceCtorEq,pn,runE_none ll,mg,m0,m1,o1,o2,r1,r2,h1,wr,runG_un,gp_un,gs,Bool.and_self,Bool.and_false,Bool.false_and,Bool.and_true]
   rw[ret_scp_goto rfl]
   refine ret_again (by decide) (.inl rfl) ?_
   simp(disch:=omega)only[wk,tupled,↓reduceIte,reduceEqDiff,reduceEq,reduceAdd,reduceCtorEq,m1,gs,pz,Bool.false_and]
 | true=>
   cases h2:risM 1 (f.r+1) none rl with
   | false=>
     simp(disch:=omega)only[wk,tupled,↓reduceIte,reduceEqDiff,reduceEq,reduceAdd,reduceCtorEq,pn,runE_none ll,mg,m0,m1,o1,o2,r1,r2,h1,h2,wr,runG_un,gp_un,gs,Bool.and_self,Bool.and_false,Bool.false_and,Bool.and_true]
     rw[ret_scp_goto rfl]
     refine ret_again (by decide) (.inl rfl) ?_
     simp(disch:=omega)only[wk,tupled,↓reduceIte,reduceEqDiff,reduceEq,reduceAdd,reduceCtorEq,m1,gs,pz,Bool.and_false]
   | true=>
     simp(disch:=omega)only[wk,tupled,↓reduceIte,reduceEqDiff,reduceEq,reduceAdd,reduceCtorEq,pn,runE_none ll,mg,m0,m1,o1,o2,r1,r2,h1,h2,wr,runG_un,gp_un,gs,Bool.and_self,Bool.and_false,Bool.false_and,Bool.and_true,pd1]
end Go.Proofs.YtephfpdnhdpmkaaGreatDoor
namespace Go.Am
open Go
def eqL (p:AV->AV->Bool):List AV->List AV->Bool
 |[],[]=>true
 |a::r,b::s=>p a b&&eqL p r s
 |_,_=>false
def eqD:Nat->AV->AV->Bool
 |0,_,_=>false
 | n+1,a,b=>
   match a,b with
   | .sl s k cs tk,.sl s' k' ds tk'=>Nat.beq s s'&&(Nat.beq k k'&&(eqT tk tk'&&eqL (eqD n) cs ds))
   | .agg cs,.agg ds=>eqL (eqD n) cs ds
   |a,b=>eqS a b
theorem eqL_eq {p:AV->AV->Bool} (hp:∀a b,p a b=true->a=b):∀{a b:List AV},eqL p a b=true->a=b
 |[],[],_=>rfl
 | a::r,b::s,h=>by
   simp only[eqL,Bool.and_eq_true]at h
   rw[hp _ _ h.1,eqL_eq hp h.2]
 |[],_::_,h=>by cases h
 |_::_,[],h=>by cases h
theorem eqD_eq:∀(n:Nat) (a b:AV),eqD n a b=true->a=b
 |0,_,_,h=>by cases h
 | n+1,a,b,h=>by
   unfold eqD at h
   split at h
   . simp only[Bool.and_eq_true]at h
     rw[Nat.eq_of_beq_eq_true h.1,Nat.eq_of_beq_eq_true h.2.1,eqT_eq h.2.2.1,eqL_eq (eqD_eq n) h.2.2.2]
   . rw[eqL_eq (eqD_eq n) h]
   . exact eqS_eq h
end Go.Am
namespace Go.Proofs.YtephfpdnhdpmkaaGreatDoor
open Go Go.Am Go.Spc Go.Rec
def fW:Frm:=⟨32,8,16,8⟩
def blW:List Int:=[18,19,24,25,26,27,28,29,30,31]
def imgW:List AV:=[.int .i64 32,.int .i64 8,.int .i64 16,.int .i64 8,.int .u64 1,.int .u64 2,.int .i64 9,.int .i64 11,.int .i64 15,.int .i64 16,.sl 7 1 [.int .i64 1,.int .i64 2,.int .i64 1,.sl 0 0 [] .z,.int .i64 1,.sl 0 0 [] .z,.str (ByteArray.mk (Array.mk []))] .ro,.sl 1 10 [.int .i64 18,.int .i64 19,.int .i64 24,.int .i64 25,.int .i64 26,.int .i64 27,.int .i64 28,.int .i64 29,.int .i64 30,.int .i64 31] .ro,.sl 0 0 [] .z]
theorem sofW:(cbL tabR).pc 38 [.agg imgW]=some (.plain (.tup [.agg imgW,.bool true])):=by
 have I:Img fW rootZ [] blW [] (.sl 1 10 (encs i64A blW) .ro) (.sl 0 0 [] .z):=⟨by decide,rootZ_ok,JV.nil _ (by decide),⟨1,.ro,rfl,fun _=>rfl,rfl⟩,⟨0,.z,rfl,fun h=>absurd rfl h,rfl⟩,by decide,by decide,by decide⟩
 have h:=sofK_px I (k0:=1) (k1:=2) ⟨by decide,by decide⟩ ⟨by decide,by decide⟩ (.inl rfl) []
 have e:okI fW blW []=true:=by decide
 rw[e,if_pos rfl]at h
 rw[pcx_pc rfl]at h
 exact h
def knownW (f:FuncId) (args:List AV):Option PR:=if Nat.beq f 38&&eqL (eqD 5) [.agg imgW] (args.map lend)then some (.plain (.tup [.agg imgW,.bool true]))else none
theorem knownW_ok:∀f args r,knownW f args=some r->(cbL tabR).pc f args=some r:=by
 intro f args r h
 unfold knownW at h
 split at h
 . rename_i hc
   rw[Bool.and_eq_true]at hc
   cases h
   have hf:=Nat.eq_of_beq_eq_true hc.1
   have ha:=eqL_eq (eqD_eq 5) hc.2
   subst hf
   refine pc_lend1 rfl ?_
   rw[<-ha]
   exact sofW
 . cases h
theorem works_pc:(cbL tabR).pc 9 []=some (.plain (.bool true)):=pc_run knownW_ok 300 (by kernel_rfl)
theorem sworks_px (H:Heap):pcx (cbL tabR) 9 [] H=some (.plain (.bool true)):=pcx_N rfl works_pc
theorem toRp {f:FuncId} {args:List AV} {r:PR} (h:(cbL tab).pc f args=some r):(cbL tabR).pc f args=some r:=subR.pc _ _ _ h
theorem rngM_congr {P Q:Int->Bool}:∀(k:Nat) (a:Int),(∀x,a<=x->x<a+k->P x=Q x)->rngM P a k=rngM Q a k
 |0,_,_=>rfl
 | k+1,a,h=>by
   rw[rngM,rngM,h a (Int.le_refl _) (by omega),rngM_congr k (a+1) fun x h1 h2=>h x (by omega) (by omega)]
theorem rngM_ge {P:Int->Bool}:∀(k:Nat) (a:Int),∀x∈rngM P a k,a<=x/\x<a+k
 |0,_,x,h=>by cases h
 | k+1,a,x,h=>by
   rw[rngM]at h
   split at h
   . rcases List.mem_cons.1 h with rfl|h
     . omega
     . have:=rngM_ge k (a+1) x h;omega
   . have:=rngM_ge k (a+1) x h;omega
theorem imgOf {f:Frm} {bl rl fl:List Int} {bv rv:AV} (hb:IntR bl bv) (hr:IntR rl rv) (h:okU f bl rl fl) {rt:Tv} {ns:List Int} (h1:RootT rt) (h2:JV f rt.nm ns):Img f rt ns bl rl bv rv:=
 ⟨h.1,h1,h2,hb,hr,h.2.2.1,h.2.2.2.1,h.2.1⟩
end Go.Proofs.YtephfpdnhdpmkaaGreatDoor
namespace Go.Spc
open Go Go.Am
structure Rn where
 a:Int
 m:Int
def rnA (x:Rn):List AV:=[.int .i64 x.a,.int .i64 x.m]
instance : Even rnA 2 := ⟨fun _ => rfl⟩
def stepR (out:List Rn) (b:Int):List Rn:=
 match out.getLast? with
 |some x=>if x.a+x.m=b then out.dropLast++[⟨x.a,x.m+1⟩] else out++[⟨b,1⟩]
 |none=>out++[⟨b,1⟩]
def gapM:Int->List Int->List Rn
 |_,[]=>[]
 |e,b::r=>if e<b then⟨e,b-e⟩::gapM (b+1) r else gapM (b+1) r
def Endd (out:List Rn) (e:Int):Prop:=∀x,out.getLast? =some x->x.a+x.m<e
end Go.Spc
