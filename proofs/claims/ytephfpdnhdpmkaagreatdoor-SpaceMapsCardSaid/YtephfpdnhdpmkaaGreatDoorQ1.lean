/- TEXTS OF THE WALKS, put together: RW R1 R2 R3 R4 R5 R6 KL KS KU SMA SM SW1 SW2 SW3 KE SP1 RI1 TZ2 BG0 BG2 GL. No condition but those stated. -/
import Derived.Test.YtephfpdnhdpmkaaGreatDoorAmSet
import Derived.Test.YtephfpdnhdpmkaaGreatDoorPFuns
import Derived.KernelRfl
import Derived.Test.YtephfpdnhdpmkaaGreatDoorP1
import Derived.Test.YtephfpdnhdpmkaaGreatDoorAmRng
import Derived.Test.YtephfpdnhdpmkaaGreatDoorAmFast
import Derived.Test.YtephfpdnhdpmkaaGreatDoorAmMap
import Derived.Test.YtephfpdnhdpmkaaGreatDoorAmTop
import Derived.Shelf.Spec.SlicesGrow
import Derived.Test.YtephfpdnhdpmkaaGreatDoorProg
import Derived.WalkKit
import Derived.BigCall
import Derived.Below
import Derived.Laws.OwnMore
import Derived.Test.YtephfpdnhdpmkaaGreatDoorChecked
import Derived.Test.YtephfpdnhdpmkaaGreatDoorRows
import Derived.DataReads
import Derived.LaidMore
open Int (reduceEq)
open Nat (reduceEqDiff reduceAdd reduceMul reduceLT reduceLeDiff)
set_option linter.all false
set_option maxHeartbeats 8000000
set_option maxRecDepth 1000000
namespace Go.Proofs.YtephfpdnhdpmkaaGreatDoor
open Go Go.Am
def tH:Option PR->Bool
 |some (.plain (.bool true))=>true
 |_=>false
theorem yT {o:Option PR} (h:tH o=true):o=some (.plain (.bool true)):=by
 unfold tH at h;split at h
 . rfl
 . cases h
end Go.Proofs.YtephfpdnhdpmkaaGreatDoor
namespace Go.Proofs.YtephfpdnhdpmkaaGreatDoor
open Go Go.Am Go.Rec
theorem ib {xo yo:X} {ek:EqK} {a b:ByteArray}:bE .eql ek xo yo (.str a) (.str b)=some (.bool (a.toList==b.toList)):=rfl
theorem k0:(ByteArray.mk (Array.mk [])).toList=[]:=(ByteArray.toList_eq _).trans rfl
theorem eN (a:Nat):BitVec.ofInt IntKind.u64.bits (a:Int)=BitVec.ofNat 64 a:=by
 show BitVec.ofInt 64 (a:Int)=_
 simp
theorem u64_and {xo yo:X} {ek:EqK} {a b:Nat} (ha:a<18446744073709551616):bE .and ek xo yo (.int .u64 a) (.int .u64 b)=some (.int .u64 ((a&&& b % 18446744073709551616:Nat):Int)):=by
 have e:bE .and ek xo yo (.int .u64 a) (.int .u64 b)=some (.int .u64 (IntKind.u64.wrap (BitVec.ofInt IntKind.u64.bits (a:Int)&&& BitVec.ofInt IntKind.u64.bits (b:Int)).toNat)):=rfl;rw[e,eN,eN]
 have h2:(BitVec.ofNat 64 a&&& BitVec.ofNat 64 b).toNat=a&&& b % 18446744073709551616:=by
   rw[BitVec.toNat_and,BitVec.toNat_ofNat,BitVec.toNat_ofNat];show a % 18446744073709551616&&& b % 18446744073709551616=_
   rw[Nat.mod_eq_of_lt ha]
 have h3:(BitVec.ofNat 64 a&&& BitVec.ofNat 64 b).toNat<18446744073709551616:=(BitVec.ofNat 64 a&&& BitVec.ofNat 64 b).isLt;rw[h2]at h3;show some (AV.int .u64 (IntKind.u64.wrap (BitVec.ofNat 64 a&&& BitVec.ofNat 64 b).toNat))=_
 rw[h2,wrap_u64 (by omega) (by omega)]
theorem u64_or {xo yo:X} {ek:EqK} {a b:Nat} (ha:a<18446744073709551616) (hb:b<18446744073709551616):bE .or ek xo yo (.int .u64 a) (.int .u64 b)=some (.int .u64 ((a|||b:Nat):Int)):=by
 have e:bE .or ek xo yo (.int .u64 a) (.int .u64 b)=some (.int .u64 (IntKind.u64.wrap (BitVec.ofInt IntKind.u64.bits (a:Int)|||BitVec.ofInt IntKind.u64.bits (b:Int)).toNat)):=rfl;rw[e,eN,eN]
 have h2:(BitVec.ofNat 64 a|||BitVec.ofNat 64 b).toNat=a|||b:=by
   rw[BitVec.toNat_or,BitVec.toNat_ofNat,BitVec.toNat_ofNat]
   show a % 18446744073709551616|||b % 18446744073709551616=_
   rw[Nat.mod_eq_of_lt ha,Nat.mod_eq_of_lt hb]
 have h3:(BitVec.ofNat 64 a|||BitVec.ofNat 64 b).toNat<18446744073709551616:=(BitVec.ofNat 64 a|||BitVec.ofNat 64 b).isLt;rw[h2]at h3;show some (AV.int .u64 (IntKind.u64.wrap (BitVec.ofNat 64 a|||BitVec.ofNat 64 b).toNat))=_
 rw[h2,wrap_u64 (by omega) (by omega)]
theorem tS {xo yo:X} {ek:EqK} {a b:Int} (hb:0<=b) (h64:b<=64) (h0:0<=a*2^b.toNat) (hl:a*2^b.toNat<18446744073709551616) {k:IntKind}:bE .shl ek xo yo (.int .u64 a) (.int k b)=some (.int .u64 (a*2^b.toNat)):=by
 have:¬b<0:=by omega
 have m:min b.toNat IntKind.u64.bits=b.toNat:=by show min b.toNat 64=_;omega
 show dB .shl .u64 a k b=_
 simp only[dB,this,if_false,m];rw[wrap_u64 h0 hl]
theorem jB {xo yo:X} {ek:EqK} {a b:Int} (hb:0<=b) (h64:b<=64) {k:IntKind}:bE .shr ek xo yo (.int .u64 a) (.int k b)=some (.int .u64 (a/2^b.toNat)):=by
 have:¬b<0:=by omega
 have m:min b.toNat IntKind.u64.bits=b.toNat:=by show min b.toNat 64=_;omega
 show dB .shr .u64 a k b=_
 simp only[dB,this,if_false,m];rw[Int.fdiv_eq_ediv_of_nonneg _ (Int.pow_nonneg (by decide))]
def um (v:Option PR) (n:Int):Bool:=
 match v with
 |some (.plain (.int .u64 m))=>m==n
 |_=>false
theorem yM {o:Option PR} {n:Int} (h:um o n=true):o=some (.plain (.int .u64 n)):=by
 unfold um at h;split at h
 . rw[eq_of_beq h]
 . cases h
theorem MF {f:FuncId} {args:List AV} {n:Int} (hl:(cbL tab).cy f=false) (h:um ((cbs tab 10).pc f args) n=true) (H:ab):pcx (cbL tab) f args H=some (.plain (.int .u64 n)):=aS hl (dC.2 ⟨10,yM h⟩)
theorem Hv {f:FuncId} {args:List AV} (hl:(cbL tab).cy f=false) (h:tH ((cbs tab 10).pc f args)=true) (H:ab):pcx (cbL tab) f args H=some (.plain (.bool true)):=aS hl (dC.2 ⟨10,yT h⟩)
theorem LB (H:ab):pcx (cbL tab) 169 [.int .i64 0,.int .i64 16] H=some (.plain (.bool true)):=Hv rfl (by kernel_rfl) H
theorem Cn (H:ab):pcx (cbL tab) 170 [.int .i64 0,.int .i64 16] H=some (.plain (.int .u64 65535)):=MF rfl (by kernel_rfl) H
theorem Kv (m w:Nat) (hm:m<18446744073709551616) (hw:w<18446744073709551616) (H:ab):pcx (cbL tab) 171 [.int .u64 m,.int .u64 w] H=some (.plain (.int .u64 ((w&&& m:Nat):Int))):=by
 refine aS rfl (bc (fi:=Ih) rfl rfl (by simp[Ih]) (by decide) ?_);unfold Ih;rw[List.map_cons,List.map_cons,List.map_nil,aE,aE]
 have e:=fun xo yo ek=>u64_and (xo:=xo) (yo:=yo) (ek:=ek) (b:=m) hw
 rw[Nat.mod_eq_of_lt hm]at e;simp(disch:=omega)only[wk,ae,↓reduceIte,reduceEqDiff,reduceEq,reduceAdd,reduceCtorEq,e,aB,aI,aC,au,AV.hf]
theorem ofm {w:Nat} {n:Nat} (hm:n<18446744073709551616) (hw:w<18446744073709551616) (H:ab):pcx (cbL tab) 171 [.int .u64 (n:Int),.int .u64 w] H=some (.plain (.int .u64 ((w&&& n:Nat):Int))):=Kv n w hm hw H
theorem CE (w:Int) (h0:0<=w) (h1:w<18446744073709551616) (H:ab):pcx (cbL tab) 159 [.int .u64 w,.int .i64 0,.int .i64 16] H=some (.plain (.tup [.int .u64 (w % 65536),.int .i64 0])):=by
 obtain⟨w,rfl⟩:=Int.eq_ofNat_of_zero_le h0;refine aS rfl (bc (fi:=yV) rfl rfl (by simp[yV]) (by decide) ?_);unfold yV;rw[List.map_cons,List.map_cons,List.map_cons,List.map_nil,aE,aE,aE]
 have t1:=fun H=>LB H
 have m1:=fun H=>Cn H
 have o1:=fun H=>ofm (w:=w) (n:=65535) (by decide) (by omega) H
 have c1:((65535:Nat):Int)=65535:=rfl;rw[c1]at o1
 have e:((w&&& 65535:Nat):Int)=(w:Int) % 65536:=by
   rw[show w&&& 65535=w % 65536 from Nat.and_two_pow_sub_one_eq_mod w 16];rfl
 rw[e]at o1
 have s0:∀xo yo ek (a:Int),bE .shr ek xo yo (.int .u64 a) (.int .i64 0)=some (.int .u64 a):=by
   intro xo yo ek a;have:=jB (xo:=xo) (yo:=yo) (ek:=ek) (a:=a) (b:=0) (k:= .i64) (by decide) (by decide);rw[this];show some (AV.int .u64 (a/1))=_
   rw[Int.ediv_one]
 simp(disch:=omega)only[wk,ae,↓reduceIte,reduceEqDiff,reduceEq,reduceAdd,reduceCtorEq,t1,m1,o1,kG,s0,aB,aI,aC,au,AV.hf,hfL,au]
theorem MT (q:List UInt8) (b:UInt8) (r:List UInt8):List.drop (q.length*1) (ah byA (q++b::r))= .int .u8 (b.toNat:Nat)::ah byA r:=by
 rw[dN,aL];rfl
def OM (H:ab) (v:AV) (l:List Int):Prop:=(l=[]/\v= .sl 0 0 [] .z)∨(l≠[]/\∃id,v= .rsl 1 id l.length/\H[id]? =some (.cells (ah aD l)))
theorem jT (l:List Int):(ah aD l).length=l.length:=by rw[fQ (k:=1),Nat.mul_one]
theorem wrap_u8 (x:Int):IntKind.u8.wrap x=x % 256:=by simp[IntKind.wrap,IntKind.signed,IntKind.bits]
def byteOf (w:Int) (k:Nat):UInt8:=UInt8.ofNat (w/256^k % 256).toNat
theorem uE (w:Int) (k:Nat):((byteOf w k).toNat:Int)=w/256^k % 256:=by
 have h1:0<=w/256^k % 256:=Int.emod_nonneg _ (by decide);have h2:w/256^k % 256<256:=Int.emod_lt_of_pos _ (by decide);unfold byteOf;rw[UInt8.toNat_ofNat',Nat.mod_eq_of_lt (by show _<256;omega)];omega
theorem Ct (w:Int) (k:Nat):iY w (k+1)=iY w k++[byteOf w k]:=Bq w k
theorem Nv (pre:List Int) (w:Int) (r:List Int) (rest:List AV):List.drop pre.length (ah aD (pre++w::r)++rest)= .int .u64 w::(ah aD r++rest):=by
 have:=mr (f:=aD) pre (w::r) rest;rw[Nat.mul_one]at this
 rw[this,aL];rfl
theorem LI (a b k:Nat) (w:Int) (l:List UInt8) (v:AV) (H:ab) (hab:a≠b) (hk:k<8) (ha:H[a]? =some (.cells [v])) (hb:H[b]? =some (.cells [.int .u64 w]))
   (ho:Own H 1 v l.length (ah byA l)) (hl:l.length<=1000):
   pcx (cbL tab) 165 [.int .i64 (k:Nat),.ptr a 0,.ptr b 0] H=none/\∃v' H',(cbL tab).ic 165 [.int .i64 (k:Nat),.ptr a 0,.ptr b 0] H=some (.ret (.tup []),H')/\H'[a]? =some (.cells [v'])/\H'[b]? =some (.cells [.int .u64 w])∧
     Own H' 1 v' (l++[byteOf w k]).length (ah byA (l++[byteOf w k]))/\(∀s n c,v'≠ .sl s n c .e)/\H.length<=H'.length:=by
 refine⟨bH rfl (bW (fi:=Ds) rfl rfl), ?_⟩
 have:∃o H',(cbL tab).ic 165 [.int .i64 (k:Nat),.ptr a 0,.ptr b 0] H=some (o,H')/\(o= .ret (.tup [])/\∃v',H'[a]? =some (.cells [v'])/\H'[b]? =some (.cells [.int .u64 w])∧
     Own H' 1 v' (l++[byteOf w k]).length (ah byA (l++[byteOf w k]))/\(∀s n c,v'≠ .sl s n c .e)/\H.length<=H'.length):=by
   refine eg (fi:=Ds) rfl rfl (by simp[Ds]) (by decide) ?_;unfold Ds
   have sh:=fun xo yo ek=>jB (xo:=xo) (yo:=yo) (ek:=ek) (a:=w) (b:=8*(k:Int)) (k:= .i64) (by omega) (by omega)
   have pw:(2:Int)^(8*(k:Int)).toNat=256^k:=by
     have:(8*(k:Int)).toNat=8*k:=by omega
     rw[this,Int.pow_mul];rfl
   rw[pw]at sh
   have cv:IntKind.u8.wrap (w/256^k)=((byteOf w k).toNat:Int):=by rw[wrap_u8,uE]
   simp(disch:=omega)only[wk,ae,↓reduceIte,reduceEqDiff,reduceEq,reduceAdd,reduceCtorEq,ha,hb,sh,cv];refine cm ho (by omega) (by omega) (by omega) (by omega) rfl rfl (fun H1 q1 q2 q3=> ?_);have ha1:=q2.cells ho rfl ha (by intro s h;cases h);have hb1:=q2.cells ho rfl hb (by intro s h;cases h);have la:a<H1.length:=(List.getElem?_eq_some_iff.1 ha1).1;simp(disch:=omega)only[wk,ae,↓reduceIte,reduceEqDiff,reduceEq,reduceAdd,reduceCtorEq,ha1,List.append_nil];refine⟨_,List.getElem?_set_self la,by rw[List.getElem?_set_ne hab];exact hb1, ?_,(by intro s n c h;cases h),by rw[List.length_set];omega⟩
   have e:ah byA l++[.int .u8 ((byteOf w k).toNat:Nat)]=ah byA (l++[byteOf w k]):=by rw[aZ];rfl
   rw[e]at q1 ⊢;exact q1.set ha1 (by intro s h;cases h)
 obtain⟨o,H',h1,rfl,v',h2,h3,h4,h5,h6⟩:=this;exact⟨v',H',h1,h2,h3,h4,h5,h6⟩
theorem OA:(cbL tab).cy 165=false:=rfl
theorem DN (l:List Int) (rest:List AV) (s:Nat) (tk:Tk) (H:ab) (hn:l.length<=100) (hs:s=1) (hr:hfL rest=true) (hw:∀w∈l,0<=w/\w<18446744073709551616):
   pcx (cbL tab) 155 [.sl s l.length (ah aD l++rest) tk] H=some (v5 1 byA (fg l)):=by
 subst hs;obtain⟨u1,e1,f1⟩:=dc 1 l.length (ah aD l++rest) tk;refine aS rfl (bc (fi:=Gr) rfl ?_ (by simp[Gr]) (by decide) ?_)
 . simp only[bF,List.map_cons,List.map_nil,hfL,iG,gN,gf,gS,eK,Bool.and_self,Bool.and_true,Bool.true_and,Gr,fN,hr]
 unfold Gr;rw[List.map_cons,List.map_nil,e1];simp(disch:=omega)only[wk,ae,↓reduceIte,reduceEqDiff,reduceEq,reduceAdd,reduceCtorEq]
 refine aR (fun(x:List Int×List Int) E df H=>l=x.1++x.2/\E 8= .sl 1 l.length (ah aD l++rest) u1/\E 9= .int .i64 (l.length:Nat)/\E 10= .int .i64 (x.1.length:Nat)/\E 3= .ptr 0 0/\(∃v,H[0]? =some (.cells [v])/\Own H 1 v (fg x.1).length (ah byA (fg x.1))/\(∀s n c,v≠ .sl s n c .e))/\df=[])
   (fun x=>x.2.length) ([],l) (by decide) (.inl rfl) ⟨rfl,rfl,rfl,rfl,rfl,⟨_,rfl,.inl ⟨.inl rfl,rfl,rfl⟩,(by intro s n c h;cases h)⟩,rfl⟩ ?_
 intro ⟨pre,suf⟩ E df H ih hP;obtain⟨a1,E8,E9,E10,E3,⟨v,hv,ho,hne⟩,hdf⟩:=hP;dsimp only at a1 E10 ho;subst hdf
 have hl:l.length=pre.length+suf.length:=by rw[a1,List.length_append]
 cases suf with
 | nil=>
   rw[List.append_nil]at a1;subst a1;simp(disch:=omega)only[wk,ae,↓reduceIte,reduceEqDiff,reduceEq,reduceAdd,reduceCtorEq,E3,E8,E9,E10,hv,iD (fun _=>rfl) ho (fun _=>hne)]
 | cons w r=>
   simp only[List.length_cons]at hl;have d:=Nv pre w r rest;rw[<-a1]at d;have hww:=hw w (by rw[a1];simp);have hbl:=xI pre
   have n1:(pre.length:Int)<(l.length:Int):=by omega
   have hne0:0<H.length:=(List.getElem?_eq_some_iff.1 hv).1
   have g1:∀o:av,(H++[o])[H.length]? =some o:=fun o=>by simp
   have st:∀o q:av,(H++[o]).set H.length q=H++[q]:=fun o q=>by simp
   simp(disch:=omega)only[wk,ae,↓reduceIte,reduceEqDiff,reduceEq,reduceAdd,reduceCtorEq,E3,E8,E9,E10,d,n1,g1,st]
   refine aR (fun(k:Nat) E df H1=>k<=8/\E 8= .sl 1 l.length (ah aD l++rest) u1/\E 9= .int .i64 (l.length:Nat)/\E 10= .int .i64 (pre.length:Nat)/\E 3= .ptr 0 0/\E 6= .fn 165 [.ptr 0 0,.ptr H.length 0]/\E 15= .int .i64 (k:Nat)∧
       (∃v,H1[0]? =some (.cells [v])/\Own H1 1 v (fg pre++iY w k).length (ah byA (fg pre++iY w k))/\(∀s n c,v≠ .sl s n c .e))/\H1[H.length]? =some (.cells [.int .u64 w])/\df=[])
     (fun k=>8-k) 0 (by decide) (.inl rfl) ⟨by omega,by simp only[en,↓reduceIte,reduceEqDiff,E8],by simp only[en,↓reduceIte,reduceEqDiff,E9],by simp only[en,↓reduceIte,reduceEqDiff,E10],by simp only[en,↓reduceIte,reduceEqDiff,E3],by simp only[en,↓reduceIte,reduceEqDiff,E3],by simp only[en,↓reduceIte,reduceEqDiff];rfl,⟨v,by rw[List.getElem?_append_left hne0];exact hv, ?_,hne⟩,by simp,rfl⟩ ?_
   . rw[iY,List.append_nil];refine ho.kept (g:=none) (fun i o h _=> ?_) (.inl rfl)
     rw[List.getElem?_append_left (List.getElem?_eq_some_iff.1 h).1];exact h
   clear ho hne hv E3 E8 E9 E10;intro k E df H1 ih2 hP;obtain⟨hk,E8,E9,E10,E3,E6,E15,⟨v,hv,ho,hne⟩,hb,hdf⟩:=hP;subst hdf;by_cases hk8:k=8
   . subst hk8;have i8:((8:Nat):Int)=8:=rfl;rw[i8]at E15;simp(disch:=omega)only[wk,ae,↓reduceIte,reduceEqDiff,reduceEq,reduceAdd,reduceCtorEq,E3,E6,E8,E9,E10,E15];refine ih (pre++[w],r) _ _ _ (by simp) ?_
     have e:fg (pre++[w])=fg pre++iY w 8:=by rw[vB,fg,fg,List.append_nil]
     refine⟨by simp[a1],by simp only[en,↓reduceIte,reduceEqDiff,E8],by simp only[en,↓reduceIte,reduceEqDiff,E9],by simp only[en,↓reduceIte,reduceEqDiff],by simp only[en,↓reduceIte,reduceEqDiff,E3],⟨v,hv, ?_,hne⟩,rfl⟩;dsimp only;rw[e];exact ho
   . have n8:(k:Int)<8:=by omega
     have lk:(fg pre++iY w k).length<=1000:=by rw[List.length_append,xz,hbl];omega
     obtain⟨c1,v',H2,c2,c3,c4,c5,c6,c7⟩:=LI 0 H.length k w (fg pre++iY w k) v H1 (by omega) (by omega) hv hb ho lk;simp(disch:=omega)only[wk,ae,↓reduceIte,reduceEqDiff,reduceEq,reduceAdd,reduceCtorEq,E3,E6,E8,E9,E10,E15,n8,c1,aO OA,c2];refine ih2 (k+1) _ _ _ (by omega) ?_;rw[List.append_assoc,<-Ct]at c5;exact⟨by omega,by simp only[en,↓reduceIte,reduceEqDiff,E8],by simp only[en,↓reduceIte,reduceEqDiff,E9],by simp only[en,↓reduceIte,reduceEqDiff,E10],by simp only[en,↓reduceIte,reduceEqDiff,E3],by simp only[en,↓reduceIte,reduceEqDiff,E6],by simp only[en,↓reduceIte,reduceEqDiff],⟨v',c3,c5,c6⟩,c4,rfl⟩
structure Frm where
 b:Int
 i:Int
 r:Int
 t:Int
def eG (f:Frm):List AV:=[.int .i64 f.b,.int .i64 f.i,.int .i64 f.r,.int .i64 f.t]
def okF (f:Frm):Prop:=32<=f.b/\f.b<=2048/\4<=f.i/\f.i<=256/\f.i % 4=0/\4<=f.r/\f.r<=1024/\f.r % 4=0/\1<=f.t/\f.t<=40/\4<=f.b-(9+f.i/4+f.r/4+1)
instance (f : Frm) : Decidable (okF f) := inferInstanceAs (Decidable (_ /\ _))
def bz (f:Frm) (k0 k1:Int):List AV:=eG f++[.int .u64 k0,.int .u64 k1,.int .i64 9,.int .i64 (9+f.i/4),.int .i64 (9+f.i/4+f.r/4),.int .i64 (9+f.i/4+f.r/4+1)]
def MD:List AV:=[.int .i64 0,.int .i64 0,.int .i64 0,.int .i64 0,.int .u64 0,.int .u64 0,.int .i64 0,.int .i64 0,.int .i64 0,.int .i64 0]
theorem aJ {cb:CB} {rd:Option Nat} {n:Nat} {Q:KP} {ks:List Kt} {E:Env} {df:List ADf} {H:ab} {b:Bool} {d:Option Nat} {op:AOp} {rest:List ai}:qQ (.tup []) b d op rest cb rd n Q ks E df H=RR cb rd n Q rest ks (cH E d (.tup [])) df H:=rfl
theorem Ey (f:Frm) (k0 k1:Int) (H:ab):pcx (cbL tab) 32 [.agg (eG f),.agg [.int .u64 k0,.int .u64 k1]] H=some (.plain (if okF f then .tup [.agg (bz f k0 k1),.int .i64 0] else .tup [.agg MD,.int .i64 2])):=by
 refine aS rfl (bc (fi:=c32) rfl rfl (by simp[c32]) (by decide) ?_);unfold c32;have e1:aC (.agg (eG f))= .agg (eG f):=rfl;have e2:aC (.agg [.int .u64 k0,.int .u64 k1])= .agg [.int .u64 k0,.int .u64 k1]:=rfl;rw[List.map_cons,List.map_cons,List.map_nil,e1,e2];unfold bz eG MD;by_cases c1:f.b<32
 . rw[if_neg (by unfold okF;omega)];simp(disch:=omega)only[wk,ae,↓reduceIte,reduceEqDiff,reduceEq,reduceAdd,reduceCtorEq,c1,aJ,aB,aI,aC,au,AV.hf,hfL]
 by_cases c2:2048<f.b
 . rw[if_neg (by unfold okF;omega)];simp(disch:=omega)only[wk,ae,↓reduceIte,reduceEqDiff,reduceEq,reduceAdd,reduceCtorEq,c1,c2,aJ,aB,aI,aC,au,AV.hf,hfL]
 by_cases c3:f.i<4
 . rw[if_neg (by unfold okF;omega)];simp(disch:=omega)only[wk,ae,↓reduceIte,reduceEqDiff,reduceEq,reduceAdd,reduceCtorEq,c1,c2,c3,aJ,aB,aI,aC,au,AV.hf,hfL]
 by_cases c4:256<f.i
 . rw[if_neg (by unfold okF;omega)];simp(disch:=omega)only[wk,ae,↓reduceIte,reduceEqDiff,reduceEq,reduceAdd,reduceCtorEq,c1,c2,c3,c4,aJ,aB,aI,aC,au,AV.hf,hfL]
 by_cases c5:¬f.i % 4=0
 . rw[if_neg (by unfold okF;omega)];simp(disch:=omega)only[wk,ae,↓reduceIte,reduceEqDiff,reduceEq,reduceAdd,reduceCtorEq,c1,c2,c3,c4,c5,aJ,aB,aI,aC,au,AV.hf,hfL]
 by_cases c6:f.r<4
 . rw[if_neg (by unfold okF;omega)];simp(disch:=omega)only[wk,ae,↓reduceIte,reduceEqDiff,reduceEq,reduceAdd,reduceCtorEq,c1,c2,c3,c4,c5,c6,aJ,aB,aI,aC,au,AV.hf,hfL]
 by_cases c7:1024<f.r
 . rw[if_neg (by unfold okF;omega)];simp(disch:=omega)only[wk,ae,↓reduceIte,reduceEqDiff,reduceEq,reduceAdd,reduceCtorEq,c1,c2,c3,c4,c5,c6,c7,aJ,aB,aI,aC,au,AV.hf,hfL]
 by_cases c8:¬f.r % 4=0
 . rw[if_neg (by unfold okF;omega)];simp(disch:=omega)only[wk,ae,↓reduceIte,reduceEqDiff,reduceEq,reduceAdd,reduceCtorEq,c1,c2,c3,c4,c5,c6,c7,c8,aJ,aB,aI,aC,au,AV.hf,hfL]
 by_cases c9:f.t<1
 . rw[if_neg (by unfold okF;omega)];simp(disch:=omega)only[wk,ae,↓reduceIte,reduceEqDiff,reduceEq,reduceAdd,reduceCtorEq,c1,c2,c3,c4,c5,c6,c7,c8,c9,aJ,aB,aI,aC,au,AV.hf,hfL]
 by_cases c10:40<f.t
 . rw[if_neg (by unfold okF;omega)];simp(disch:=omega)only[wk,ae,↓reduceIte,reduceEqDiff,reduceEq,reduceAdd,reduceCtorEq,c1,c2,c3,c4,c5,c6,c7,c8,c9,c10,aJ,aB,aI,aC,au,AV.hf,hfL]
 have q1:0<=f.i:=by omega
 have q2:0<=f.r:=by omega
 by_cases c11:f.b-(9+f.i/4+f.r/4+1)<4
 . rw[if_neg (by unfold okF;omega)];simp(disch:=omega)only[wk,ae,↓reduceIte,reduceEqDiff,reduceEq,reduceAdd,reduceCtorEq,c1,c2,c3,c4,c5,c6,c7,c8,c9,c10,c11,aJ,aB,aI,aC,au,AV.hf,hfL]
 . rw[if_pos (by unfold okF;omega)];simp(disch:=omega)only[wk,ae,↓reduceIte,reduceEqDiff,reduceEq,reduceAdd,reduceCtorEq,c1,c2,c3,c4,c5,c6,c7,c8,c9,c10,c11,aJ,aB,aI,aC,au,AV.hf,hfL,List.cons_append,List.nil_append]
theorem uv (n lo hi:Int) (H:ab):pcx (cbL tab) 153 [.int .i64 n,.int .i64 lo,.int .i64 hi] H=some (.plain (.bool (decide (lo<=n/\n<=hi)))):=by
 refine aS rfl (bc (fi:=Jl) rfl rfl (by simp[Jl]) (by decide) ?_);unfold Jl;rw[List.map_cons,List.map_cons,List.map_cons,List.map_nil,aE,aE,aE]
 by_cases h1:lo<=n<;>by_cases h2:n<=hi<;>simp(disch:=omega)only[wk,ae,↓reduceIte,reduceEqDiff,reduceEq,reduceAdd,reduceCtorEq,h1,h2,aB,aI,aC,au,AV.hf,and_false,false_and]
theorem Mg {f:Frm} (h:okF f) (k0 k1:Int) (H:ab):pcx (cbL tab) 144 [.agg (eG f),.agg [.int .u64 k0,.int .u64 k1]] H=some (.plain (.tup [.agg (bz f k0 k1),.int .i64 0])):=by
 refine aS rfl (bc (fi:=Il) rfl rfl (by simp[Il]) (by decide) ?_);unfold Il;have e1:aC (.agg (eG f))= .agg (eG f):=rfl;have e2:aC (.agg [.int .u64 k0,.int .u64 k1])= .agg [.int .u64 k0,.int .u64 k1]:=rfl;rw[List.map_cons,List.map_cons,List.map_nil,e1,e2];obtain⟨h1,h2,h3,h4,h5,h6,h7,h8,h9,h10,h11⟩:=h;have p1:decide (32<=f.b/\f.b<=2048)=true:=decide_eq_true ⟨h1,h2⟩;have p2:decide (4<=f.i/\f.i<=256)=true:=decide_eq_true ⟨h3,h4⟩;have p3:decide (4<=f.r/\f.r<=1024)=true:=decide_eq_true ⟨h6,h7⟩;have p4:decide (1<=f.t/\f.t<=40)=true:=decide_eq_true ⟨h9,h10⟩
 have q1:0<=f.i:=by omega
 have q2:0<=f.r:=by omega
 have i1:=fun H=>uv f.b 32 2048 H
 have i2:=fun H=>uv f.i 4 256 H
 have i3:=fun H=>uv f.r 4 1024 H
 have i4:=fun H=>uv f.t 1 40 H
 rw[p1]at i1;rw[p2]at i2;rw[p3]at i3;rw[p4]at i4
 have c11:¬f.b-(9+f.i/4+f.r/4+1)<4:=by omega
 unfold bz eG;simp(disch:=omega)only[wk,ae,↓reduceIte,reduceEqDiff,reduceEq,reduceAdd,reduceCtorEq,i1,i2,i3,i4,h5,h8,c11,aB,aI,aC,au,AV.hf,hfL,List.cons_append,List.nil_append]
theorem Ao {xo yo:X} {a b c d e f g h i j:Int}:bE .eql (.struct [0,0,0,0,0,0,0,0,0,0]) xo yo (.agg [.int .i64 a,.int .i64 b,.int .i64 c,.int .i64 d,.int .u64 e,.int .u64 f,.int .i64 g,.int .i64 h,.int .i64 i,.int .i64 j]) (.agg [.int .i64 a,.int .i64 b,.int .i64 c,.int .i64 d,.int .u64 e,.int .u64 f,.int .i64 g,.int .i64 h,.int .i64 i,.int .i64 j])=some (.bool true):=by
 have ke:∀a:Int,bk 0 (.int .i64 a) (.int .i64 a)=some true:=fun a=>by show some (a==a)=_;rw[beq_self_eq_true]
 have ku:∀a:Int,bk 0 (.int .u64 a) (.int .u64 a)=some true:=fun a=>by show some (a==a)=_;rw[beq_self_eq_true]
 show(aW _ _ _).map _=_
 simp only[aW,ke,ku];rfl
theorem BO {f:Frm} (h:okF f) (k0 k1:Int) (H:ab):pcx (cbL tab) 128 [.agg (bz f k0 k1)] H=some (.plain (.bool true)):=by
 refine aS rfl (bc (fi:=HV) rfl rfl (by simp[HV]) (by decide) ?_);unfold HV;have e1:aC (.agg (bz f k0 k1))= .agg (bz f k0 k1):=rfl;rw[List.map_cons,List.map_nil,e1]
 have lo:=fun H=>Mg h k0 k1 H
 unfold bz eG at lo ⊢;simp only[List.cons_append,List.nil_append]at lo ⊢;simp(disch:=omega)only[wk,ae,↓reduceIte,reduceEqDiff,reduceEq,reduceAdd,reduceCtorEq,lo,Ao,aB,aI,aC,au,AV.hf,hfL]
def gK (a b:Int):Int:=((a.toNat^^^b.toNat:Nat):Int)
theorem zx {a b:Int} (ha:a<18446744073709551616) (hb:b<18446744073709551616):0<=gK a b/\gK a b<18446744073709551616:=by
 have h1:a.toNat<2^64:=by omega
 have h2:b.toNat<2^64:=by omega
 have:=Nat.xor_lt_two_pow h1 h2;unfold gK;omega
theorem u64_xor {xo yo:X} {ek:EqK} {a b:Int} (h0:0<=a) (h1:a<18446744073709551616) (h2:0<=b) (h3:b<18446744073709551616):bE .xor ek xo yo (.int .u64 a) (.int .u64 b)=some (.int .u64 (gK a b)):=by
 obtain⟨a,rfl⟩:=Int.eq_ofNat_of_zero_le h0;obtain⟨b,rfl⟩:=Int.eq_ofNat_of_zero_le h2;have hx:=zx h1 h3;have e:bE .xor ek xo yo (.int .u64 (a:Int)) (.int .u64 (b:Int))=some (.int .u64 (IntKind.u64.wrap (BitVec.ofInt IntKind.u64.bits (a:Int)^^^BitVec.ofInt IntKind.u64.bits (b:Int)).toNat)):=rfl;rw[e,eN,eN]
 have h4:(BitVec.ofNat 64 a^^^BitVec.ofNat 64 b).toNat=a^^^b:=by
   rw[BitVec.toNat_xor,BitVec.toNat_ofNat,BitVec.toNat_ofNat];show a % 18446744073709551616^^^b % 18446744073709551616=_
   rw[Nat.mod_eq_of_lt (by omega),Nat.mod_eq_of_lt (by omega)]
 show some (AV.int .u64 (IntKind.u64.wrap (BitVec.ofNat 64 a^^^BitVec.ofNat 64 b).toNat))=_
 rw[h4];have e2:gK (a:Int) (b:Int)=((a^^^b:Nat):Int):=rfl;rw[e2]at hx ⊢;rw[wrap_u64 hx.1 hx.2]
theorem zS {a:Int} (h0:0<=a) (h1:a<18446744073709551616):unV .xor (.int .u64 a)=some (.int .u64 (gK 18446744073709551615 a)):=
 u64_xor (xo:= .t 0) (yo:= .t 0) (ek:= .num) (by decide) (by decide) h0 h1
def Ko:Int:=14514072000185962306
def sF (r:Int):Int:=if r % 2=1 then gK (r/2) Ko else r/2
def U64 (a:Int):Prop:=0<=a/\a<18446744073709551616
theorem U64.x {a b:Int} (ha:U64 a) (hb:U64 b):U64 (gK a b):=zx ha.2 hb.2
theorem xE {r:Int} (h:U64 r):U64 (sF r):=by
 unfold sF;have h2:U64 (r/2):=⟨by have:=h.1;omega,by have:=h.2;have:=h.1;omega⟩;split
 . exact h2.x ⟨by decide,by decide⟩
 . exact h2
theorem Nk {r:Int} (h:U64 r) {xo yo:X} {ek:EqK}:bE .and ek xo yo (.int .u64 r) (.int .u64 1)=some (.int .u64 (r % 2)):=by
 obtain⟨a,rfl⟩:=Int.eq_ofNat_of_zero_le h.1;have:=u64_and (xo:=xo) (yo:=yo) (ek:=ek) (a:=a) (b:=1) (by have:=h.2;omega);rw[show(1:Nat) % 18446744073709551616=1 from rfl,Nat.and_one_is_mod]at this;exact this
theorem wi {args:List AV} {H:ab}:pcx (cbL tab) 198 args H=none:=bH rfl (bW (fi:=GU) rfl rfl)
theorem xe:(cbL tab).cy 198=false:=rfl
theorem DF {H:ab} {a:Nat} {r:Int} (hr:U64 r) (h:H[a]? =some (.cells [.int .u64 r])):(cbL tab).ic 198 [.ptr a 0] H=some (.ret (.bool (decide (r % 2=1))),H):=by
 have:∃o H',(cbL tab).ic 198 [.ptr a 0] H=some (o,H')/\o= .ret (.bool (decide (r % 2=1)))/\H'=H:=by
   refine eg (fi:=GU) rfl rfl (by simp[GU]) (by decide) ?_;unfold GU
   have a1:=fun xo yo ek=>Nk (xo:=xo) (yo:=yo) (ek:=ek) hr
   simp(disch:=omega)only[wk,ae,↓reduceIte,reduceEqDiff,reduceEq,reduceAdd,reduceCtorEq,h,a1]
 obtain⟨o,H',h,rfl,rfl⟩:=this;exact h
theorem J7 {r:Int} (hr:U64 r) (H:ab):pcx (cbL tab) 189 [.int .u64 r] H=some (.plain (.int .u64 (sF r))):=by
 refine aS rfl (bc (fi:=HT) rfl rfl (by simp[HT]) (by decide) ?_);unfold HT;rw[List.map_cons,List.map_nil,aE];have s1:(cbL tab).ic 198 [.ptr 0 0] [.cells [.int .u64 r]]=_:=DF (H:=[.cells [.int .u64 r]]) (a:=0) hr rfl
 have sh:∀{xo yo:X} {ek:EqK},bE .shr ek xo yo (.int .u64 r) (.int .u64 1)=some (.int .u64 (r/2)):=fun{xo yo ek}=>jB (by decide) (by decide)
 have hr2:U64 (r/2):=⟨by have:=hr.1;omega,by have:=hr.2;have:=hr.1;omega⟩
 have xp:∀{xo yo:X} {ek:EqK},bE .xor ek xo yo (.int .u64 (r/2)) (.int .u64 14514072000185962306)=some (.int .u64 (gK (r/2) Ko)):=fun{xo yo ek}=>u64_xor hr2.1 hr2.2 (by decide) (by decide)
 unfold sF;by_cases h:r % 2=1
 . rw[if_pos h];simp(disch:=omega)only[wk,ae,↓reduceIte,reduceEqDiff,reduceEq,reduceAdd,reduceCtorEq,s1,h,sh,xp,wi,aO xe,aB,aI,aC,au,AV.hf,hfL]
 . rw[if_neg h];simp(disch:=omega)only[wk,ae,↓reduceIte,reduceEqDiff,reduceEq,reduceAdd,reduceCtorEq,s1,h,sh,xp,wi,aO xe,aB,aI,aC,au,AV.hf,hfL]
def itM:Nat->Int->Int
 |0,r=>r
 |k+1,r=>itM k (sF r)
theorem Fm:∀(k:Nat) {r:Int},U64 r->U64 (itM k r)
 |0,_,h=>h
 |k+1,_,h=>Fm k (xE h)
def u7 (r:Int) (b:UInt8):Int:=itM 8 (gK r b.toNat)
theorem G5 (b:UInt8):U64 (b.toNat:Int):=⟨by omega,by have:=b.toNat_lt;omega⟩
theorem Gh {r:Int} (h:U64 r) (b:UInt8):U64 (u7 r b):=Fm 8 (h.x (G5 b))
theorem HG {r:Int} (hr:U64 r) (b:UInt8) (H:ab):pcx (cbL tab) 175 [.int .u64 r,.int .u8 b.toNat] H=some (.plain (.int .u64 (u7 r b))):=by
 refine aS rfl (bc (fi:=Jh) rfl rfl (by simp[Jh]) (by decide) ?_);unfold Jh;rw[List.map_cons,List.map_cons,List.map_nil,aE,aE];have hb:=G5 b
 have xp:∀{xo yo:X} {ek:EqK},bE .xor ek xo yo (.int .u64 r) (.int .u64 (b.toNat:Nat))=some (.int .u64 (gK r b.toNat)):=fun{xo yo ek}=>u64_xor hr.1 hr.2 hb.1 hb.2
 have wr:IntKind.u64.wrap (b.toNat:Int)=(b.toNat:Int):=wrap_u64 hb.1 hb.2;simp(disch:=omega)only[wk,ae,↓reduceIte,reduceEqDiff,reduceEq,reduceAdd,reduceCtorEq,xp,wr];have hx:=hr.x hb
 refine aR (fun(x:Nat×Int) E df H=>x.1<=8/\U64 x.2/\u7 r b=itM (8-x.1) x.2/\E 0= .int .u64 x.2/\E 9= .int .i64 (x.1:Nat)/\df=[])
   (fun x=>8-x.1) (0,gK r b.toNat) (by decide) (.inl rfl) ⟨by omega,hx,rfl,rfl,rfl,rfl⟩ ?_
 intro ⟨j,q⟩ E df H ih hP;obtain⟨a1,a2,a3,E0,E9,hdf⟩:=hP;dsimp only at a1 a2 a3 E0 E9;subst hdf
 have st:=fun H=>J7 a2 H
 by_cases hj:j<8
 . have n1:(j:Int)<8:=by omega
   simp(disch:=omega)only[wk,ae,↓reduceIte,reduceEqDiff,reduceEq,reduceAdd,reduceCtorEq,E0,E9,n1,st];refine ih (j+1,sF q) _ _ _ (by dsimp only;omega) ⟨by dsimp only;omega,xE a2, ?_,by simp only[en,↓reduceIte,reduceEqDiff],by simp only[en,↓reduceIte,reduceEqDiff],rfl⟩;dsimp only;rw[a3,show 8-j=(8-(j+1))+1 by omega];rfl
 . obtain rfl:j=8:=by omega
   rw[a3];have e:itM (8-8) q=q:=rfl;rw[e]
   have n1:¬((8:Nat):Int)<8:=by omega
   simp(disch:=omega)only[wk,ae,↓reduceIte,reduceEqDiff,reduceEq,reduceAdd,reduceCtorEq,E0,E9,n1,aB,aI,aC,au,AV.hf,hfL]
def yD:aH:=(.region [⟨(.some 6),(.mv (.t 11)),.none⟩])
def ze:aH:=(.block 1 (.region [⟨(.some 12),(.load 1 false (.t 5)),.none⟩,⟨(.some 13),(.mv (.t 6)),.none⟩,⟨(.some 14),(.br 175 [(.t 12),(.t 13)]),.none⟩,⟨.none,(.store 1 (.t 5) (.t 14)),.none⟩]))
theorem L5 {args:List AV} {H:ab}:pcx (cbL tab) 174 args H=none:=bH rfl (bW (fi:=Hr) rfl rfl)
theorem KX:(cbL tab).cy 174=false:=rfl
theorem Lp (l:List UInt8) (tk:Tk) (H:ab):(cbL tab).ic 174 [.sl 1 l.length (ah byA l) tk] H=some (.ret (.fn 188 [.ptr H.length 0]),H++[.cells [.sl 1 l.length (ah byA l) tk]]):=by
 have:∃o H',(cbL tab).ic 174 [.sl 1 l.length (ah byA l) tk] H=some (o,H')/\o= .ret (.fn 188 [.ptr H.length 0])/\H'=H++[.cells [.sl 1 l.length (ah byA l) tk]]:=by
   refine eg (fi:=Hr) rfl rfl (by simp[Hr]) (by decide) ?_;unfold Hr;simp(disch:=omega)only[wk,ae,↓reduceIte,reduceEqDiff,reduceEq,reduceAdd,reduceCtorEq]
 obtain⟨o,H',h,rfl,rfl⟩:=this;exact h
theorem Im (R:Nat->ab->Prop) (id k:Nat) (L:List UInt8) (hL:L.length<=100000) (tk:Tk)
   (hstep:∀(H:ab) (j:Nat) (x:UInt8),L[j]? =some x->R j H->∃H',(cbL tab).yl id [.int .u8 (x.toNat:Nat)] H=some (.ret (.bool true),H')/\R (j+1) H')
   (H:ab) (hR:R 0 H) (ha:H[k]? =some (.cells [.sl 1 L.length (ah byA L) tk])):
   ∃o H',(cbL tab).ic 188 [.yld id,.ptr k 0] H=some (o,H')/\o= .ret (.tup [])/\R L.length H':=by
 refine eg (fi:=Ij) rfl rfl (by simp[Ij]) (by decide) ?_;unfold Ij;simp(disch:=omega)only[wk,ae,↓reduceIte,reduceEqDiff,reduceEq,reduceAdd,reduceCtorEq,ha]
 refine aR (fun(x:List UInt8×List UInt8) E df H=>L=x.1++x.2/\E 0= .yld id/\E 5= .sl 1 L.length (ah byA L) tk/\E 6= .int .i64 (L.length:Nat)/\E 7= .int .i64 (x.1.length:Nat)/\df=[]/\R x.1.length H)
   (fun x=>x.2.length) ([],L) (by decide) (.inl rfl) ⟨rfl,rfl,rfl,rfl,rfl,rfl,hR⟩ ?_
 intro ⟨pre,suf⟩ F df H1 ih hP;obtain⟨a1,F0,F5,F6,F7,hdf,hR1⟩:=hP;dsimp only at a1 F7 hR1;subst hdf
 have la:L.length=pre.length+suf.length:=by rw[a1,List.length_append]
 cases suf with
 | nil=>
   have n1:¬(pre.length:Int)<(L.length:Int):=by simp at la;omega
   have e:pre.length=L.length:=by simp at la;omega
   rw[e]at hR1;simp(disch:=omega)only[wk,ae,↓reduceIte,reduceEqDiff,reduceEq,reduceAdd,reduceCtorEq,F0,F5,F6,F7,n1];exact hR1
 | cons x r=>
   simp only[List.length_cons]at la
   have d1:List.drop pre.length (ah byA L)= .int .u8 (x.toNat:Nat)::ah byA r:=by
     have:=MT pre x r;rw[Nat.mul_one]at this;rw[a1,this]
   have n1:(pre.length:Int)<(L.length:Int):=by omega
   obtain⟨H2,y1,y2⟩:=hstep H1 pre.length x (by rw[a1,List.getElem?_append_right (Nat.le_refl _),Nat.sub_self];rfl) hR1;simp(disch:=omega)only[wk,ae,↓reduceIte,reduceEqDiff,reduceEq,reduceAdd,reduceCtorEq,F0,F5,F6,F7,n1,d1,y1,Bool.not_true];refine ih (pre++[x],r) _ _ _ (by simp) ?_;exact⟨by simp[a1],by simp only[en,↓reduceIte,reduceEqDiff,F0],by simp only[en,↓reduceIte,reduceEqDiff,F5],by simp only[en,↓reduceIte,reduceEqDiff,F6],by simp only[en,↓reduceIte,reduceEqDiff],rfl,by dsimp only;rw[List.length_append];exact y2⟩
def foldM (l:List UInt8) (r:Int):Int:=l.foldl u7 r
theorem pS:∀(l:List UInt8) {r:Int},U64 r->U64 (foldM l r)
 |[],_,h=>h
 |b::l,_,h=>pS l (Gh h b)
theorem yx {l:List UInt8} {j:Nat} {x:UInt8} (h:l[j]? =some x) (r:Int):foldM (l.take (j+1)) r=u7 (foldM (l.take j) r) x:=by
 rw[List.take_add_one,h];unfold foldM;rw[List.foldl_append];rfl
structure MvR (k id:Nat) (L:List UInt8) (r0:Int) (H1:ab) (j:Nat) (H:ab):Prop where
 own:H[k]? =some (.cells [.int .u64 (foldM (L.take j) r0)])
 OT:∀(i:Nat) (o:av),i≠k->H1[i]? =some o->H[i]? =some o
theorem DZ {k id:Nat} {tm:List AV} {L:List UInt8} {r0:Int} (hr0:U64 r0) {H1:ab} {E:Env} (ha:Ag 17 tm E) (E5:E 5= .ptr k 0) (hki:k≠id) (hlo:H1[id]? =some (.loop 0 .normal tm [11] yD ze))
   (j:Nat) (x:UInt8) (hx:L[j]? =some x) (H:ab) (hR:MvR k id L r0 H1 j H):
   ∃H',(cbL tab).yl id [.int .u8 (x.toNat:Nat)] H=some (.ret (.bool true),H')/\MvR k id L r0 H1 (j+1) H':=by
 obtain⟨hv,hkeep⟩:=hR;have hloH:=hkeep id _ (fun e=>hki e.symm) hlo
 have ip:=fun H=>HG (pS (L.take j) hr0) x H
 have key:=Kz (tab:=tab) (id:=id) (P:=fun b H'=>b=true/\MvR k id L r0 H1 (j+1) H') (args:=[.int .u8 (x.toNat:Nat)]) (H:=H) (cW hloH) ha rfl (by decide) (by decide) (by decide) (by decide) (by decide) ?_
 . obtain⟨b,H',k1,rfl,k2⟩:=key;exact⟨H',k1,k2⟩
 unfold yD;simp(disch:=omega)only[wk,ae,↓reduceIte,reduceEqDiff,reduceEq,reduceAdd,reduceCtorEq,qI,sH];refine⟨rfl,rfl,_,_,_,_,_,cW hloH, ?_⟩;unfold ze
 have kk:∀o,(H.set id o)[k]? =some (.cells [.int .u64 (foldM (L.take j) r0)]):=fun o=>by rw[List.getElem?_set_ne (fun e=>hki e.symm)];exact hv
 rw[<-yx hx]at ip;simp(disch:=omega)only[wk,ae,↓reduceIte,reduceEqDiff,reduceEq,reduceAdd,reduceCtorEq,E5,kk,ip]
 have i2:∀o o',((H.set id o).set k o')[id]? =some o:=fun o o'=>by rw[List.getElem?_set_ne hki,List.getElem?_set_self (List.getElem?_eq_some_iff.1 hloH).1]
 refine⟨rfl,_,_,_,_,_,_,cW (i2 _ _),rfl, ?_, ?_⟩
 . rw[List.getElem?_set_ne (fun e=>hki e.symm),List.getElem?_set_self];rw[List.length_set];exact(List.getElem?_eq_some_iff.1 hv).1
 . intro i o hi ho';by_cases hii:i=id
   . subst hii;rw[hlo]at ho';cases ho';rw[List.getElem?_set_self (by simpa using(List.getElem?_eq_some_iff.1 hloH).1)];rfl
   . rw[List.getElem?_set_ne (fun e=>hii e.symm),List.getElem?_set_ne (fun e=>hi e.symm),List.getElem?_set_ne (fun e=>hii e.symm)];exact hkeep i o hi ho'
def p8:Int:=18446744073709551615
def te (s:Int) (l:List UInt8):Int:=gK p8 (foldM l (gK p8 s))
theorem JD:U64 p8:=⟨by decide,by decide⟩
theorem Ib {s:Int} (hs:U64 s) (l:List UInt8) (hl:l.length<=100000) (tk:Tk) (H:ab):pcx (cbL tab) 164 [.int .u64 s,.sl 1 l.length (ah byA l) tk] H=some (.plain (.int .u64 (te s l))):=by
 obtain⟨u1,e1,f1⟩:=dc 1 l.length (ah byA l) tk;have hfb:hfL (ah byA l)=true:=bR (fun _=>rfl) l;refine aS rfl (bc (fi:=Ec) rfl ?_ (by simp[Ec]) (by decide) ?_)
 . simp only[bF,List.map_cons,List.map_nil,hfL,iG,gN,gf,gS,eK,Bool.and_self,Bool.and_true,Bool.true_and,Ec,hfb]
 unfold Ec;rw[List.map_cons,List.map_cons,List.map_nil,e1,aE];have un:=zS hs.1 hs.2;have vi:(cbL tab).ic 174 [.sl 1 l.length (ah byA l) u1] [.cells [.int .u64 (gK p8 s)]]=_:=Lp l u1 [.cells [.int .u64 (gK p8 s)]];have un':unV .xor (.int .u64 s)=some (.int .u64 (gK p8 s)):=un;have hr0:=JD.x hs;simp(disch:=omega)only[wk,ae,↓reduceIte,reduceEqDiff,reduceEq,reduceAdd,reduceCtorEq,un',vi,L5,aO KX];refine sS (f:=188) (caps:=[.ptr 1 0]) (by simp only[en,↓reduceIte,reduceEqDiff,AR]) (fun tm ha=> ?_)
 obtain⟨o,H2,q1,rfl,hR⟩:=Im (fun j H=>MvR 0 3 l (gK p8 s) [.cells [.int .u64 (gK p8 s)],.cells [.sl 1 l.length (ah byA l) u1],.gA,.loop 0 .normal tm [11] yD ze] j H) 3 1 l hl u1
   (fun H j x hx hR=>DZ hr0 ha (by simp only[en,↓reduceIte,reduceEqDiff]) (by decide) rfl j x hx H hR)
   [.cells [.int .u64 (gK p8 s)],.cells [.sl 1 l.length (ah byA l) u1],.gA,.loop 0 .normal tm [11] yD ze] ⟨rfl,fun _ _ _ h=>h⟩ rfl
 obtain⟨hv,hkeep⟩:=hR;have l2:=hkeep 3 _ (by decide) rfl;have d2:=hkeep 2 _ (by decide) rfl;refine⟨_,H2,_,_,_,_,_,_,q1,cW l2,by decide,rfl, ?_⟩;change Ret _ _ _ _ _ _ _ _ (H2.set 3 (.loop 3 .normal tm [11] yD ze));rw[List.take_of_length_le (Nat.le_refl _)]at hv
 have v3:(H2.set 3 (.loop 3 .normal tm [11] yD ze))[0]? =some (.cells [.int .u64 (foldM l (gK p8 s))]):=by rw[List.getElem?_set_ne (by decide)];exact hv
 have d3:(H2.set 3 (.loop 3 .normal tm [11] yD ze))[2]? =some .gA:=by rw[List.getElem?_set_ne (by decide)];exact d2
 have fo:=pS l hr0;have un2:unV .xor (.int .u64 (foldM l (gK p8 s)))=some (.int .u64 (te s l)):=zS fo.1 fo.2;simp(disch:=omega)only[wk,ae,↓reduceIte,reduceEqDiff,reduceEq,reduceAdd,reduceCtorEq,v3,un2];rw[sQ d3];simp(disch:=omega)only[wk,ae,↓reduceIte,reduceEqDiff,reduceEq,reduceAdd,reduceCtorEq,aB,aI,aC,au,AV.hf,hfL]
theorem Mr (l:List UInt8) (hl:l.length<=100000) (tk:Tk) (H:ab):pcx (cbL tab) 154 [.sl 1 l.length (ah byA l) tk] H=some (.plain (.int .u64 (te 0 l))):=by
 obtain⟨u1,e1,f1⟩:=dc 1 l.length (ah byA l) tk;have hfb:hfL (ah byA l)=true:=bR (fun _=>rfl) l;refine aS rfl (bc (fi:=Dk) rfl ?_ (by simp[Dk]) (by decide) ?_)
 . simp only[bF,List.map_cons,List.map_nil,hfL,iG,gN,gf,gS,eK,Bool.and_self,Bool.and_true,Bool.true_and,Dk,hfb]
 unfold Dk;rw[List.map_cons,List.map_nil,e1]
 have mp:=fun H=>Ib (s:=0) ⟨by decide,by decide⟩ l hl u1 H
 simp(disch:=omega)only[wk,ae,↓reduceIte,reduceEqDiff,reduceEq,reduceAdd,reduceCtorEq,mp,aB,aI,aC,au,AV.hf,hfL]
theorem xQ (m:Nat):bX m [AV.int .u64 0]=ah aD (List.replicate m 0):=by
 induction m with
 |zero=>rfl
 |succ m ih=>rw[bX,ih,List.replicate_succ,aL];rfl
theorem Dp (l:List Int) (g:Nat) (H:ab) (hl:l.length<=64) (hg:H[g]? =some (.tok 1)) (h0:l≠[]):
   ∃v' H',AN 1 8 [.int .u64 0] (.sl 1 l.length (ah aD l) (.own g)) (.int .i64 (64-(l.length:Int))) H=some (.val v',H')/\Own H' 1 v' (l++List.replicate (64-l.length) 0).length (ah aD (l++List.replicate (64-l.length) 0))/\(∀s n c,v'≠ .sl s n c .e):=by
 have hp:l.length≠0:=fun h=>h0 (List.length_eq_zero_iff.1 h)
 have hm:eo 1 8 [.int .u64 0] (.int .i64 (64-(l.length:Int))) (.int .i64 (64-(l.length:Int)))=some (64-l.length):=by
   have e:(64-(l.length:Int)).toNat=64-l.length:=by omega
   simp only[eo,e];rw[if_pos ⟨trivial,by omega,rfl,rfl,by omega,by omega⟩]
 by_cases hm0:64-l.length=0
 . refine⟨.sl 1 l.length (ah aD l) (.own g),H, ?_, ?_,by intro s n c h;cases h⟩
   . simp only[AN,hm,hm0,eW]
     have h1:l.length*8<=70368744177664:=by omega
     simp[h1];omega
   . rw[hm0,List.replicate_zero,List.append_nil];exact .inr ⟨hp,g,rfl,hg⟩
 . refine⟨.sl 1 (l.length+(64-l.length)) (ah aD l++bX (64-l.length) [.int .u64 0]) (.own H.length),H.set g .dead++[.tok 1], ?_, ?_,by intro s n c h;cases h⟩
   . simp only[AN,hm,eW,xQ]
     have h1:(l.length+(64-l.length))*8<=70368744177664:=by omega
     have h2:l.length+(64-l.length)<=70368744177664:=by omega
     have h3:(64-l.length)*1<=(ah aD (List.replicate (64-l.length) 0)).length:=by rw[jT,List.length_replicate];omega
     have h4:(ah aD (List.replicate (64-l.length) 0)).take ((64-l.length)*1)=ah aD (List.replicate (64-l.length) 0):=List.take_of_length_le (by rw[jT,List.length_replicate];omega);simp only[hm0,h1,h2,h3,h4,jd,hg,Nat.one_pos,and_self,if_true,if_false,true_and,and_true]
   . rw[xQ,<-aZ,List.length_append,List.length_replicate];refine .inr ⟨by omega,H.length,rfl, ?_⟩;rw[List.getElem?_append_right (by simp)];simp
theorem lH {α:Type} {sz:Nat} {f:α->List AV} {l:List α} (h:l≠[]):v5 sz f l= .fresh sz l.length (ah f l):=by
 unfold v5
 have:l.isEmpty=false:=by cases l with
   |nil=>exact absurd rfl h
   |cons _ _=>rfl
 rw[this];rfl
theorem BS (l:List Int) (g:Nat) (H:ab) (hl:l.length<=64) (hg:H[g]? =some (.tok 1)) (h0:l≠[]):
   pcx (cbL tab) 129 [.sl 1 l.length (ah aD l) (.own g)] H=none/\∃v' H',(cbL tab).ic 129 [.sl 1 l.length (ah aD l) (.own g)] H=some (.ret v',H')/\Own H' 1 v' (l++List.replicate (64-l.length) 0).length (ah aD (l++List.replicate (64-l.length) 0))/\(∀s n c,v'≠ .sl s n c .e):=by
 have hon:bF yL [.sl 1 l.length (ah aD l) (.own g)]=false:=by
   simp[bF,yL,hfL,AV.hf,Tk.hf]
 refine⟨bH rfl (bW (fi:=yL) rfl hon), ?_⟩
 have:∃o H',(cbL tab).ic 129 [.sl 1 l.length (ah aD l) (.own g)] H=some (o,H')/\∃v',o= .ret v'/\Own H' 1 v' (l++List.replicate (64-l.length) 0).length (ah aD (l++List.replicate (64-l.length) 0))/\(∀s n c,v'≠ .sl s n c .e):=by
   refine eg (fi:=yL) rfl hon (by simp[yL]) (by decide) ?_;unfold yL;obtain⟨v',H',h1,h2,h3⟩:=Dp l g H hl hg h0;simp(disch:=omega)only[wk,ae,↓reduceIte,reduceEqDiff,reduceEq,reduceAdd,reduceCtorEq,h1];exact⟨_,rfl,by rw[<-List.length_append];exact h2,h3⟩
 obtain⟨o,H',h1,v',rfl,h2,h3⟩:=this;exact⟨v',H',h1,h2,h3⟩
theorem NP:(cbL tab).cy 129=false:=rfl
theorem HO {l:List Int} (h:l≠[]):fg l≠[]:=by
 cases l with
 |nil=>exact absurd rfl h
 |cons w r=>intro e;have:=congrArg List.length e;simp[fg,iY]at this
theorem Ji {l:List Int} (h0:l≠[]) (hl:l.length<=100) (hb:(fg l).length<=100000) (hw:∀w∈l,U64 w) (tk:Tk) (H:ab):pcx (cbL tab) 146 [.sl 1 l.length (ah aD l) tk] H=some (.plain (.int .u64 (te 0 (fg l)))):=by
 obtain⟨u1,e1,f1⟩:=dc 1 l.length (ah aD l) tk;have hfu:hfL (ah aD l)=true:=bR (fun _=>rfl) l;refine aS rfl (bc (fi:=EX) rfl ?_ (by simp[EX]) (by decide) ?_)
 . simp only[bF,List.map_cons,List.map_nil,hfL,iG,gN,gf,gS,eK,Bool.and_self,Bool.and_true,Bool.true_and,EX,hfu]
 unfold EX;rw[List.map_cons,List.map_nil,e1]
 have bp:=fun H=>DN l [] 1 u1 H hl rfl rfl hw
 rw[List.append_nil,lH (HO h0)]at bp
 have sp:=fun g H=>Mr (fg l) hb (.own g) H
 simp(disch:=omega)only[wk,ae,↓reduceIte,reduceEqDiff,reduceEq,reduceAdd,reduceCtorEq,bp,sp,aB,aI,aC,au,AV.hf,hfL]
theorem rzU {xo yo:X} {s n:Nat} {cs:List AV}:bE .eql .slice xo yo (.sl s n cs .ro) (.sl 0 0 [] .z)=some (.bool false):=rfl
theorem CP {l:List Int} (h0:l≠[]) (hl:l.length<=1000) {tk:Tk} (ht:tk= .ro∨∃g,tk= .own g) (H:ab):pcx (cbL tab) 145 [.sl 1 l.length (ah aD l) tk] H=some (.fresh 1 l.length (ah aD l)):=by
 have el:aC (.sl 1 l.length (ah aD l) tk)= .sl 1 l.length (ah aD l) .ro:=by rcases ht with rfl|⟨g,rfl⟩<;>rfl
 have hfu:hfL (ah aD l)=true:=bR (fun _=>rfl) l
 have n0:l.length≠0:=fun e=>h0 (List.eq_nil_of_length_eq_zero e)
 refine aS rfl (bc (fi:=I6) rfl ?_ (by simp[I6]) (by decide) ?_)
 . show hfL [aC _]=true
   rw[el];simp[hfL,AV.hf,hfu,Tk.hf]
 unfold I6;rw[List.map_cons,List.map_nil,el];have own0:Own ([]:ab) 1 (.sl 1 0 [] .e) 0 []:= .inl ⟨.inr rfl,rfl,rfl⟩;simp(disch:=omega)only[wk,ae,↓reduceIte,reduceEqDiff,reduceEq,reduceAdd,reduceCtorEq,rzU];refine cm own0 (by omega) (by omega) (by omega) n0 (by rw[jT];omega) (jd _) (fun H2 q1 q2 q3=> ?_);simp only[Nat.zero_add,List.nil_append]at q1 ⊢;simp(disch:=omega)only[wk,ae,↓reduceIte,reduceEqDiff,reduceEq,reduceAdd,reduceCtorEq];rw[<-lH (f:=aD) (sz:=1) h0];exact iD (fun _=>rfl) q1 (fun e=>absurd e h0)
def fU (l:List Int):List Int:=l++[te 0 (fg l)]
theorem Ke {l:List Int} (h0:l≠[]) (hl:l.length<=100) (hb:(fg l).length<=100000) (hw:∀w∈l,U64 w) {tk:Tk} (ht:tk= .ro∨∃g,tk= .own g) (H:ab):
   pcx (cbL tab) 130 [.sl 1 l.length (ah aD l) tk] H=some (.fresh 1 (fU l).length (ah aD (fU l))):=by
 have el:aC (.sl 1 l.length (ah aD l) tk)= .sl 1 l.length (ah aD l) .ro:=by rcases ht with rfl|⟨g,rfl⟩<;>rfl
 have hfu:hfL (ah aD l)=true:=bR (fun _=>rfl) l
 have n0:l.length≠0:=fun e=>h0 (List.eq_nil_of_length_eq_zero e)
 refine aS rfl (bc (fi:=IT) rfl ?_ (by simp[IT]) (by decide) ?_)
 . show hfL [aC _]=true
   rw[el];simp[hfL,AV.hf,hfu,Tk.hf]
 unfold IT;rw[List.map_cons,List.map_nil,el]
 have cp:=fun H=>CP h0 (by omega) (tk:= .ro) (.inl rfl) H
 have wp:=fun H=>Ji h0 hl hb hw .ro H
 simp(disch:=omega)only[wk,ae,↓reduceIte,reduceEqDiff,reduceEq,reduceAdd,reduceCtorEq,cp,wp];have ho:Own ([av.tok 1]:ab) 1 (.sl 1 l.length (ah aD l) (.own 0)) l.length (ah aD l):= .inr ⟨n0,0,rfl,rfl⟩;refine cm ho (by omega) (by omega) (by omega) (by omega) rfl rfl (fun H2 q1 q2 q3=> ?_)
 have ee:ah aD l++[.int .u64 (te 0 (fg l))]=ah aD (fU l):=by unfold fU;rw[aZ];rfl
 have eln:l.length+1=(fU l).length:=by unfold fU;simp
 rw[ee,eln]at q1 ⊢
 have hne:fU l≠[]:=by unfold fU;simp
 simp(disch:=omega)only[wk,ae,↓reduceIte,reduceEqDiff,reduceEq,reduceAdd,reduceCtorEq];rw[<-lH (f:=aD) (sz:=1) hne];exact iD (fun _=>rfl) q1 (fun e=>absurd e hne)
theorem Mk {tab:FuncId->Option an} {f:FuncId} {fi:an} {args:List AV} {R:PR->Prop} (ht:tab f=some fi) (hon:bF fi args=true) (hl:args.length<=fi.np) (hf:fi.body.fits fi.np=true)
   (h:Ret (cbL tab) none fi.np (Go.Am.Ends tab fi.res fun o H=>∃r,aB (some (o,H))=some r/\R r) [.code fi.body] .normal (mK (args.map aC)) [] []) (hcon:fi.con=none:=by rfl) (hm:fi.mode≠5/\fi.mode≠6:=by decide):∃r,(cbL tab).pc f args=some r/\R r:=by
 rw[<-kK fi.np]at h;obtain⟨o,H',h1,r,h2,h3⟩:=jL (by rw[List.length_map];exact hl) hf h;refine⟨r, ?_,h3⟩;apply tq;rw[pcA,ht];simp only[hcon];simp only[hon,if_true];rw[h1,C9 hm,h2]
theorem vW {f:Frm} (h:okF f) {k0 k1:Int} (hk0:U64 k0) (hk1:U64 k1):∃v,∀H,pcx (cbL tab) 104 [.agg (bz f k0 k1)] H=some (.plain (.tup [v,.int .i64 0])):=by
 have hr:=fun H=>BO h k0 k1 H
 obtain⟨h1,h2,h3,h4,h5,h6,h7,h8,h9,h10,h11⟩:=h;have w1:IntKind.u64.wrap f.b=f.b:=wrap_u64 (by omega) (by omega);have w2:IntKind.u64.wrap f.i=f.i:=wrap_u64 (by omega) (by omega);have w3:IntKind.u64.wrap f.r=f.r:=wrap_u64 (by omega) (by omega);have w4:IntKind.u64.wrap f.t=f.t:=wrap_u64 (by omega) (by omega);generalize hl:[3555397645633865032,f.b,f.i,f.r,f.t,k0,k1]=l
 have hl7:l.length=7:=by rw[<-hl];rfl
 have le:ah aD l=[.int .u64 3555397645633865032,.int .u64 f.b,.int .u64 f.i,.int .u64 f.r,.int .u64 f.t,.int .u64 k0,.int .u64 k1]:=by rw[<-hl];rfl
 have hne:l≠[]:=by rw[<-hl];simp
 have hw:∀w∈l,U64 w:=by
   rw[<-hl];intro w hw;simp only[List.mem_cons,List.not_mem_nil,or_false]at hw
   rcases hw with rfl|rfl|rfl|rfl|rfl|rfl|rfl
   . exact⟨by decide,by decide⟩
   . exact⟨by omega,by omega⟩
   . exact⟨by omega,by omega⟩
   . exact⟨by omega,by omega⟩
   . exact⟨by omega,by omega⟩
   . exact hk0
   . exact hk1
 have sp:=fun H=>Ke hne (by omega) (by rw[xI];omega) hw (tk:= .ro) (.inl rfl) H
 rw[le,hl7]at sp
 have hs8:(fU l).length=8:=by unfold fU;simp[hl7]
 have hsn:fU l≠[]:=by unfold fU;simp
 have key:∃r,(cbL tab).pc 104 [.agg (bz f k0 k1)]=some r/\∃v,r= .plain (.tup [v,.int .i64 0]):=by
   refine Mk (fi:=JE) rfl rfl (by simp[JE]) (by decide) ?_;unfold JE;have e1:aC (.agg (bz f k0 k1))= .agg (bz f k0 k1):=rfl;rw[List.map_cons,List.map_nil,e1];unfold bz eG at hr ⊢;simp only[List.cons_append,List.nil_append]at hr ⊢;have x0:4+Int.toNat 0=4:=rfl;have x1:4+Int.toNat 1=5:=rfl;obtain⟨pn,v',H',p1,p2,p3⟩:=BS (fU l) 2 [.cells [.int .i64 f.b,.int .i64 f.i,.int .i64 f.r,.int .i64 f.t,.int .u64 k0,.int .u64 k1,.int .i64 9,.int .i64 (9+f.i/4),.int .i64 (9+f.i/4+f.r/4),.int .i64 (9+f.i/4+f.r/4+1)],.cells [.int .i64 f.b,.int .i64 f.i,.int .i64 f.r,.int .i64 f.t],.tok 1] (by omega) rfl hsn;simp(disch:=omega)only[wk,ae,↓reduceIte,reduceEqDiff,reduceEq,reduceAdd,reduceCtorEq,hr,w1,w2,w3,w4,x0,x1,sp,pn,p1,aO NP]
   have hfu:∀l:List Int,hfL (ah aD l)=true:=fun l=>bR (fun _=>rfl) l
   rcases p2 with⟨_,h,_⟩|⟨_,g,rfl,_⟩
   . rw[List.length_append]at h;omega
   . refine⟨.plain (.tup [.sl 1 (fU l++List.replicate (64-(fU l).length) 0).length (ah aD (fU l++List.replicate (64-(fU l).length) 0)) .ro,.int .i64 0]), ?_,_,rfl⟩;simp only[aB,aI,aC,au,List.map_cons,List.map_nil,AV.hf,hfL,hfu,Tk.hf,Bool.and_self,if_true]
 obtain⟨r,h1,v,rfl⟩:=key;exact⟨v,fun H=>aS rfl h1⟩
end Go.Proofs.YtephfpdnhdpmkaaGreatDoor
namespace Go.Spc
open Go Go.Am
def nmS (i:Nat):ByteArray:=⟨#[UInt8.ofNat (97+i)]⟩
structure Nm where
 k:Int
 i:Nat
 n:Int
def nmC (x:Nm):List AV:=[.int .u64 x.k,.str (nmS x.i),.int .i64 x.n]
instance : pL nmC 3 := ⟨fun _ => rfl⟩
theorem iO (x:Nm):hfL (nmC x)=true:=rfl
structure Tv where
 n:Int
 k:Int
 l:Int
 bv:AV
 p:Int
 nm:List Nm
 nv:AV
def tvC (t:Tv):List AV:=[.int .i64 t.n,.int .i64 t.k,.int .i64 t.l,t.bv,.int .i64 t.p,t.nv,.str (ByteArray.mk (Array.mk []))]
instance : pL tvC 7 := ⟨fun _ => rfl⟩
def IsR (sz n:Nat) (cs:List AV) (v:AV):Prop:=∃s tk,v= .sl s n cs tk/\(n≠0->s=sz)/\tk.hf=true
structure Tv.ok (t:Tv):Prop where
 b:IsR 1 0 [] t.bv
 n:IsR 3 t.nm.length (ah nmC t.nm) t.nv
 few:t.nm.length<=1000
def wU {α:Type} (sz:Nat) (f:α->List AV) (l:List α):AV:=if l=[] then .sl sz 0 [] .e else .sl sz l.length (ah f l) .ro
def Tv.cp (t:Tv):Tv:={t with bv:= .sl 1 0 [] .e,nv:=wU 3 nmC t.nm}
theorem Ie (l:List Nm):IsR 3 l.length (ah nmC l) (wU 3 nmC l):=by
 unfold wU;by_cases h:l=[]
 . subst h;exact⟨3,.e,rfl,fun _=>rfl,rfl⟩
 . rw[if_neg h];exact⟨3,.ro,rfl,fun _=>rfl,rfl⟩
theorem Tv.ko {t:Tv} (h:t.nm.length<=1000):t.cp.ok:=⟨⟨1,.e,rfl,fun _=>rfl,rfl⟩,Ie _,h⟩
def okT (T:List Tv):Prop:=∀t∈T,t.ok
theorem IsR.hf {sz n:Nat} {cs:List AV} {v:AV} (h:IsR sz n cs v) (hc:hfL cs=true):v.hf=true:=by
 obtain⟨s,tk,rfl,_,ht⟩:=h;simp[AV.hf,hc,ht]
theorem tY {t:Tv} (h:t.ok):hfL (tvC t)=true:=by
 have h1:=h.b.hf rfl;have h2:=h.n.hf (bR iO _);simp[tvC,hfL,h1,h2,AV.hf]
theorem gU:∀{T:List Tv},okT T->hfL (ah tvC T)=true
 |[],_=>rfl
 | t::T,h=>by
   rw[aL,eK,tY (h t (List.mem_cons_self ..)),gU fun x hx=>h x (List.mem_cons_of_mem _ hx)];rfl
theorem IsR.one {sz n:Nat} {cs:List AV} {v:AV} (h:IsR sz n cs v):v.one=true:=by
 obtain⟨s,tk,rfl,_,_⟩:=h;rfl
theorem iQ {t:Tv} (h:t.ok):aA (tvC t)=true:=by
 have h1:=h.b.one;have h2:=h.n.one;unfold tvC;simp only[aA,h1,h2,Bool.and_true,Bool.and_self];rfl
theorem dk (pre:List Tv) (t:Tv) (r:List Tv):List.drop (pre.length*7) (ah tvC (pre++t::r))= .int .i64 t.n:: .int .i64 t.k:: .int .i64 t.l::t.bv:: .int .i64 t.p::t.nv:: .str (ByteArray.mk (Array.mk []))::ah tvC r:=by
 rw[dN,aL];rfl
theorem eD (pre:List Nm) (x:Nm) (r:List Nm):List.drop (pre.length*3) (ah nmC (pre++x::r))= .int .u64 x.k:: .str (nmS x.i):: .int .i64 x.n::ah nmC r:=by
 rw[dN,aL];rfl
def cq:List Tv->Int->Int->Int
 |[],_,_=> -1
 |t::r,n,i=>if t.n=n then i else cq r n (i+1)
def dD (T:List Tv):Int:=T.foldr (fun t a=>t.nm.length+a) 0
def fz (T:List Tv):Nat->Int->Int
 |0,_=>0
 |k+1,n=>if cq T n 0<0 then n else fz T k (n+1)
def j8 (T:List Tv) (x:Tv):List Tv:=T.filter fun t=>decide (t.n≠x.n)
def eF (x:Tv):List Tv->List Tv
 |[]=>[x]
 |t::r=>if x.n<=t.n then x::j8 (t::r) x else t::eF x r
def bZ (T:List Tv) (x:Tv):List Tv:=(eF x T).map Tv.cp
def iX (key:Int):List Nm->Int
 |[]=>key
 |x::r=>iX (if x.k=key then key+1 else key) r
def ga (x:Nm):List Nm->List Nm
 |[]=>[x]
 |y::r=>if x.k<y.k then x::y::r else y::ga x r
theorem nn:∀(T:List Tv) (n:Int) (i:Nat),cq T n i= -1/\(∀t∈T,t.n≠n)∨∃(pre:List Tv) (t:Tv) (suf:List Tv),T=pre++t::suf/\t.n=n/\cq T n i=((i+pre.length:Nat):Int)
 |[],_,_=> .inl ⟨rfl,by simp⟩
 | t::r,n,i=>by
   by_cases h:t.n=n
   . exact .inr ⟨[],t,r,rfl,h,by rw[cq,if_pos h];simp⟩
   . rw[cq,if_neg h]
     rcases nn r n (i+1)with⟨h1,h2⟩|⟨pre,x,suf,rfl,h2,h3⟩
     . refine .inl ⟨by exact_mod_cast h1,fun x hx=> ?_⟩
       rcases List.mem_cons.1 hx with rfl|hx
       . exact h
       . exact h2 x hx
     . refine .inr ⟨t::pre,x,suf,rfl,h2, ?_⟩
       have:((i:Int)+1)=((i+1:Nat):Int):=by omega
       rw[this,h3,List.length_cons];omega
end Go.Spc
namespace Go.Proofs.YtephfpdnhdpmkaaGreatDoor
open Go Go.Am Go.Spc
def stC (f:Frm) (T:List Tv) (tk:Tk):List AV:=bz f 5 6++[.sl 7 T.length (ah tvC T) tk]
theorem cF (f:Frm) (T:List Tv) (tk:Tk):stC f T tk=[.int .i64 f.b,.int .i64 f.i,.int .i64 f.r,.int .i64 f.t,.int .u64 5,.int .u64 6,.int .i64 9,.int .i64 (9+f.i/4),.int .i64 (9+f.i/4+f.r/4),.int .i64 (9+f.i/4+f.r/4+1),.sl 7 T.length (ah tvC T) tk]:=rfl
theorem aY (f:Frm) (T:List Tv) {tk:Tk} (h:tk= .ro∨tk= .e):aC (.agg (stC f T tk))= .agg (stC f T tk):=by
 rcases h with rfl|rfl<;>rfl
theorem dM (f:Frm) {T:List Tv} (hT:okT T) {tk:Tk} (h:tk.hf=true):hfL (stC f T tk)=true:=by
 rw[cF];simp[hfL,AV.hf,gU hT,h]
theorem iC (f:Frm) {T:List Tv} (hT:okT T) (hl:T.length<=1000) (n:Int) {tk:Tk} (ht:tk= .ro∨tk= .e) (H:ab):pcx (cbL tab) 86 [.agg (stC f T tk),.int .i64 n] H=some (.plain (.int .i64 (cq T n 0))):=by
 have hh:=dM f hT (tk:=tk) (by rcases ht with rfl|rfl<;>rfl);refine aS rfl (bc (fi:=c86) rfl ?_ (by simp[c86]) (by decide) ?_)
 . simp only[bF,List.map_cons,List.map_nil,aY f T ht,aE,c86,hfL,AV.hf,hh,Bool.and_self]
 unfold c86;rw[List.map_cons,List.map_cons,List.map_nil,aY f T ht,aE,cF];simp(disch:=omega)only[wk,ae,↓reduceIte,reduceEqDiff,reduceEq,reduceAdd,reduceCtorEq]
 refine aR (fun(x:List Tv×List Tv) E df H=>T=x.1++x.2/\cq T n 0=cq x.2 n ((x.1.length:Nat):Int)/\E 1= .int .i64 n/\E 2= .ptr 0 0/\E 5= .int .i64 ((x.1.length:Nat):Int)/\df=[]/\H=[.cells (stC f T tk)])
   (fun x=>x.2.length) ([],T) (by decide) (.inl rfl) ⟨rfl,rfl,rfl,rfl,rfl,rfl,by rw[cF]⟩ ?_
 intro ⟨pre,suf⟩ E df H ih hP;obtain⟨a1,a2,E1,E2,E5,hdf,hH⟩:=hP;dsimp only at a1 a2 E5;rw[cF]at hH;subst hdf hH
 have la:T.length=pre.length+suf.length:=by rw[a1,List.length_append]
 cases suf with
 | nil=>
   have n1:¬(pre.length:Int)<(T.length:Int):=by rw[la];simp
   rw[a2];simp(disch:=omega)only[wk,ae,↓reduceIte,reduceEqDiff,reduceEq,reduceAdd,reduceCtorEq,E1,E2,E5,n1,cq,aB,aI,aC,au,AV.hf,hfL];rfl
 | cons t r=>
   rw[List.length_cons]at la
   have n1:(pre.length:Int)<(T.length:Int):=by omega
   have d1:=dk pre t r;rw[<-a1]at d1;rw[cq]at a2;by_cases h:t.n=n
   . rw[if_pos h]at a2;rw[a2];simp(disch:=omega)only[wk,ae,↓reduceIte,reduceEqDiff,reduceEq,reduceAdd,reduceCtorEq,E1,E2,E5,n1,d1,h,aB,aI,aC,au,AV.hf,hfL]
   . rw[if_neg h]at a2;simp(disch:=omega)only[wk,ae,↓reduceIte,reduceEqDiff,reduceEq,reduceAdd,reduceCtorEq,E1,E2,E5,n1,d1,h];exact ih (pre++[t],r) _ _ _ (by simp) ⟨by simp[a1],by rw[a2];simp,by simp only[en,↓reduceIte,reduceEqDiff,E1],by simp only[en,↓reduceIte,reduceEqDiff,E2],by simp only[en,↓reduceIte,reduceEqDiff],rfl,by rw[cF]⟩
theorem fV (t:Tv) (T:List Tv):dD (t::T)=t.nm.length+dD T:=rfl
theorem rX:∀T:List Tv,0<=dD T
 |[]=>Int.le_refl 0
 |t::T=>by rw[fV];have:=rX T;omega
theorem w9 (f:Frm) {T:List Tv} (hT:okT T) (hl:T.length<=1000) {tk:Tk} (ht:tk= .ro∨tk= .e) (hs:dD T<=100000) (H:ab):pcx (cbL tab) 89 [.agg (stC f T tk)] H=some (.plain (.int .i64 (dD T))):=by
 have hh:=dM f hT (tk:=tk) (by rcases ht with rfl|rfl<;>rfl);refine aS rfl (bc (fi:=c89) rfl ?_ (by simp[c89]) (by decide) ?_)
 . simp only[bF,List.map_cons,List.map_nil,aY f T ht,c89,hfL,AV.hf,hh,Bool.and_self]
 unfold c89;rw[List.map_cons,List.map_nil,aY f T ht,cF];simp(disch:=omega)only[wk,ae,↓reduceIte,reduceEqDiff,reduceEq,reduceAdd,reduceCtorEq]
 refine aR (fun(x:List Tv×List Tv) E df H=>T=x.1++x.2/\(∃s:Int,0<=s/\dD T=s+dD x.2/\E 3= .int .i64 s)/\E 1= .ptr 0 0/\E 4= .int .i64 ((x.1.length:Nat):Int)/\df=[]/\H=[.cells (stC f T tk)])
   (fun x=>x.2.length) ([],T) (by decide) (.inl rfl) ⟨rfl,⟨0,Int.le_refl 0,by simp,rfl⟩,rfl,rfl,rfl,by rw[cF]⟩ ?_
 intro ⟨pre,suf⟩ E df H ih hP;obtain⟨a1,⟨s,s0,a2,E3⟩,E1,E4,hdf,hH⟩:=hP;dsimp only at a1 a2 E4;rw[cF]at hH;subst hdf hH
 have la:T.length=pre.length+suf.length:=by rw[a1,List.length_append]
 cases suf with
 | nil=>
   have n1:¬(pre.length:Int)<(T.length:Int):=by rw[la];simp
   rw[a2,show dD []=0 from rfl,Int.add_zero];simp(disch:=omega)only[wk,ae,↓reduceIte,reduceEqDiff,reduceEq,reduceAdd,reduceCtorEq,E1,E3,E4,n1,aB,aI,aC,au,AV.hf,hfL]
 | cons t r=>
   rw[List.length_cons]at la
   have n1:(pre.length:Int)<(T.length:Int):=by omega
   have d1:=dk pre t r;rw[<-a1]at d1;rw[fV]at a2;have:=rX r;obtain⟨s1,t1,hv,_,_⟩:=(hT t (by rw[a1];simp)).n;rw[hv]at d1;simp(disch:=omega)only[wk,ae,↓reduceIte,reduceEqDiff,reduceEq,reduceAdd,reduceCtorEq,E1,E3,E4,n1,d1];exact ih (pre++[t],r) _ _ _ (by simp) ⟨by simp[a1],⟨s+t.nm.length,by omega,by dsimp only;rw[a2];omega,by simp only[en,↓reduceIte,reduceEqDiff]⟩,by simp only[en,↓reduceIte,reduceEqDiff,E1],by simp only[en,↓reduceIte,reduceEqDiff],rfl,by rw[cF]⟩
theorem HE (f:Frm) (hf:okF f) {T:List Tv} (hT:okT T) (hl:T.length<=1000) {tk:Tk} (ht:tk= .ro∨tk= .e) (H:ab):pcx (cbL tab) 60 [.agg (stC f T tk)] H=some (.plain (.int .i64 (fz T f.i.toNat 1))):=by
 have hh:=dM f hT (tk:=tk) (by rcases ht with rfl|rfl<;>rfl);obtain⟨_,_,i4,i256,_⟩:=hf;refine aS rfl (bc (fi:=c60) rfl ?_ (by simp[c60]) (by decide) ?_)
 . simp only[bF,List.map_cons,List.map_nil,aY f T ht,c60,hfL,AV.hf,hh,Bool.and_self]
 unfold c60
 have fd:=fun n H=>iC f hT hl n ht H
 rw[cF]at fd;rw[List.map_cons,List.map_nil,aY f T ht,cF];simp(disch:=omega)only[wk,ae,↓reduceIte,reduceEqDiff,reduceEq,reduceAdd,reduceCtorEq]
 refine aR (fun(x:Nat) E df H=>x<=f.i.toNat/\fz T f.i.toNat 1=fz T (f.i.toNat-x) ((x:Nat)+1)/\E 1= .ptr 0 0/\E 3= .int .i64 (((x:Nat):Int)+1)/\df=[]/\H=[.cells (stC f T tk)])
   (fun x=>f.i.toNat-x) 0 (by decide) (.inl rfl) ⟨Nat.zero_le _,rfl,rfl,rfl,rfl,by rw[cF]⟩ ?_
 intro x E df H ih hP;obtain⟨a1,a2,E1,E3,hdf,hH⟩:=hP;rw[cF]at hH;subst hdf hH;by_cases hx:x<f.i.toNat
 . have n1:(x:Int)+1<=f.i:=by omega
   rw[show f.i.toNat-x=(f.i.toNat-(x+1))+1 by omega,fz]at a2;by_cases h:cq T ((x:Nat)+1) 0<0
   . rw[if_pos h]at a2;rw[a2];simp(disch:=omega)only[wk,ae,↓reduceIte,reduceEqDiff,reduceEq,reduceAdd,reduceCtorEq,E1,E3,n1,fd,h,aB,aI,aC,au,AV.hf,hfL]
   . rw[if_neg h]at a2;simp(disch:=omega)only[wk,ae,↓reduceIte,reduceEqDiff,reduceEq,reduceAdd,reduceCtorEq,E1,E3,n1,fd,h];exact ih (x+1) _ _ _ (by omega) ⟨by omega,by rw[a2];simp,by simp only[en,↓reduceIte,reduceEqDiff,E1],by simp only[en,↓reduceIte,reduceEqDiff],rfl,by rw[cF]⟩
 . have n1:¬(x:Int)+1<=f.i:=by omega
   rw[show f.i.toNat-x=0 by omega,fz]at a2;rw[a2];simp(disch:=omega)only[wk,ae,↓reduceIte,reduceEqDiff,reduceEq,reduceAdd,reduceCtorEq,E1,E3,n1,aB,aI,aC,au,AV.hf,hfL]
theorem g9 (l:List Tv):(ah tvC l).length=l.length*7:=fQ l
theorem GM {D:List Tv} {t:Tv} {r:List Tv} (j:Nat) (hj:j<7):(ah tvC (D++t::r))[D.length*7+j]? =(tvC t)[j]? :=by
 rw[aZ,List.getElem?_append_right (by rw[g9];omega),g9,Nat.add_sub_cancel_left,aL,List.getElem?_append_left (by exact hj)]
theorem Hp {D:List Tv} {t t':Tv} {r:List Tv} {v:AV} (j:Nat) (hj:j<7) (h:(tvC t).take j++[v]++(tvC t).drop (j+1)=tvC t'):
   (ah tvC (D++t::r)).take (D.length*7+j)++[v]++(ah tvC (D++t::r)).drop (D.length*7+j+1)=ah tvC (D++t'::r):=by
 have hl:(tvC t).length=7:=rfl;rw[aZ,aL,aZ,aL,<-h];rw[List.take_append,List.drop_append,g9,List.take_of_length_le (by rw[g9];omega),List.drop_of_length_le (by rw[g9];omega),Nat.add_sub_cancel_left,show D.length*7+j+1-D.length*7=j+1 by omega,List.take_append_of_le_length (by rw[hl];omega),List.drop_append_of_le_length (by rw[hl];omega)];simp[List.append_assoc]
def un (t:Tv):Tv:={t with bv:=au t.bv,nv:=au t.nv}
theorem lU (l:List Tv):(ah tvC l).map au=ah tvC (l.map un):=by
 induction l with
 |nil=>rfl
 |cons t l ih=>rw[List.map_cons,aL,aL,List.map_append,ih];rfl
theorem nT (t:Tv):un t.cp=t.cp:=by
 unfold un Tv.cp wU;by_cases h:t.nm=[]
 . simp only[h,if_true];rfl
 . simp only[h,if_false];rfl
theorem GZ {n:Nat} {D:List Tv} {X:List av} (hn:D.length=n) (hd:∀t∈D.map un,t.ok):ef (some (.ret (.rsl 7 0 n),.cells (ah tvC D)::X))=some (.plain (.sl 7 n (ah tvC (D.map un)) .ro)):=by
 have hk:(ah tvC D).map (bw (.cells (ah tvC D)::X) 3)=ah tvC D:=by
   have:∀(H:ab),∀l:List Tv,(∀t∈l.map un,t.ok)->(ah tvC l).map (bw H 3)=ah tvC l:=by
     intro H l
     induction l with
     |nil=>intro _;rfl
     | cons t l ih=>
       intro h;rw[aL,List.map_append,ih fun x hx=>h x (List.mem_cons_of_mem _ hx)];obtain⟨⟨s1,t1,h1,_,_⟩,⟨s2,t2,h2,_,_⟩,_⟩:=h (un t) (List.mem_cons_self ..)
       have b1:bw H 3 t.bv=t.bv:=by
         have h1:au t.bv=_:=h1
         cases hb:t.bv<;>rw[hb]at h1<;>first|rfl|(simp[au]at h1;done)
       have b2:bw H 3 t.nv=t.nv:=by
         have h2:au t.nv=_:=h2
         cases hb:t.nv<;>rw[hb]at h2<;>first|rfl|(simp[au]at h2;done)
       congr 1;show [_,_,_,bw H 3 t.bv,_,bw H 3 t.nv,_]=_
       rw[b1,b2];rfl
   exact this _ _ hd
 have hl:n*7<=(ah tvC D).length:=by rw[g9,hn];exact Nat.le_refl _
 have e1:bw (.cells (ah tvC D)::X) 4 (.rsl 7 0 n)= .sl 7 n (ah tvC D) .ro:=by
   show(if n*7<=(ah tvC D).length then AV.sl 7 n (((ah tvC D).take (n*7)).map (bw (.cells (ah tvC D)::X) 3)) .ro else .rsl 7 0 n)=_
   rw[if_pos hl,List.take_of_length_le (by rw[g9,hn];exact Nat.le_refl _),hk]
 have e2:oe (.cells (ah tvC D)::X) (.rsl 7 0 n)= .sl 7 n (ah tvC (D.map un)) .ro:=by
   show zY (bw _ 4 _)=_
   rw[e1,<-lU];rfl
 simp only[ef,e2];rw[if_pos];have:=gU (T:=D.map un) hd;simp only[AV.hf,this];rfl
theorem Cp {T:List Tv} (hT:okT T) (h0:T≠[]) (hl:T.length<=1000) (tk:Tk):(cbL tab).pc 118 [.sl 7 T.length (ah tvC T) tk]=some (.plain (.sl 7 T.length (ah tvC (T.map Tv.cp)) .ro)):=by
 obtain⟨u1,e1,f1⟩:=dc 7 T.length (ah tvC T) tk;have hh:=gU hT
 have ho:aA (ah tvC T)=true:=by
   clear hl h0 hh e1
   induction T with
   |nil=>rfl
   |cons t T ih=>rw[aL,ej,iQ (hT t (List.mem_cons_self ..)),ih fun x hx=>hT x (List.mem_cons_of_mem _ hx)];rfl
 have hn0:T.length≠0:=fun h=>h0 (List.eq_nil_of_length_eq_zero h)
 refine dm (fi:=FF) rfl ?_ (by simp[FF]) (by decide) ?_
 . simp only[bF,List.map_cons,List.map_nil,e1,FF,hfL,AV.hf,hh,f1,Bool.and_self]
 unfold FF;rw[List.map_cons,List.map_nil,e1];have tt:List.take (T.length*7) (ah tvC T)=ah tvC T:=List.take_of_length_le (by rw[g9];exact Nat.le_refl _)
 have ap:kA 7 96 (.sl 7 0 [] .e) (.sl 7 T.length (ah tvC T) u1) []=some (.val (.rsl 7 0 T.length),[.cells (ah tvC T)]):=by
   simp only[kA,tt,g9,ho]
   rw[if_pos ⟨by omega,by omega,by omega,hn0,trivial,rfl,trivial,Nat.le_refl _,trivial⟩];rfl
 simp(disch:=omega)only[wk,ae,↓reduceIte,reduceEqDiff,reduceEq,reduceAdd,reduceCtorEq,ap]
 refine aR (fun(x:List Tv×List Tv) E df H=>T=x.1++x.2/\(∃D X,H= .cells (ah tvC (D++x.2))::X/\D.map un=x.1.map Tv.cp)/\E 3= .rsl 7 0 T.length/\E 4= .int .i64 ((x.1.length:Nat):Int)/\df=[])
   (fun x=>x.2.length) ([],T) (by decide) (.inl rfl) ⟨rfl,⟨[],[],rfl,rfl⟩,rfl,rfl,rfl⟩ ?_
 intro ⟨pre,suf⟩ E df H ih hP;obtain⟨a1,⟨D,X,hH,hD⟩,E3,E4,hdf⟩:=hP;dsimp only at a1 hD E4 hH;subst hdf hH
 have la:T.length=pre.length+suf.length:=by rw[a1,List.length_append]
 have ld:D.length=pre.length:=by have:=congrArg List.length hD;simpa using this
 cases suf with
 | nil=>
   have n1:¬(pre.length:Int)<(T.length:Int):=by rw[la];simp
   rw[List.append_nil]at a1 ⊢
   have pd:=GZ (n:=T.length) (D:=D) (X:=X) (by rw[ld,a1]) (by
     rw[hD];intro x hx;obtain⟨y,hy,rfl⟩:=List.mem_map.1 hx
     exact Tv.ko (hT y (by rw[a1];exact hy)).few)
   rw[hD,<-a1]at pd;simp(disch:=omega)only[wk,ae,↓reduceIte,reduceEqDiff,reduceEq,reduceAdd,reduceCtorEq,E3,E4,n1,pd]
 | cons t r=>
   rw[List.length_cons]at la
   have n1:(pre.length:Int)<(T.length:Int):=by omega
   have ht:=hT t (by rw[a1];simp);obtain⟨s1,t1,hb,_,_⟩:=ht.b;obtain⟨s2,t2,hv,hs2,_⟩:=ht.n;have few:=ht.few;have l3:(ah nmC t.nm).length=t.nm.length*3:=fQ _;have t3:List.take (t.nm.length*3) (ah nmC t.nm)=ah nmC t.nm:=List.take_of_length_le (by rw[l3];exact Nat.le_refl _)
   have o3:aA (ah nmC t.nm)=true:=by
     clear l3 t3 hv hs2 few
     induction t.nm with
     |nil=>rfl
     |cons x l ih=>rw[aL,ej,ih];rfl
   rw[<-ld]at E4 n1;have g5:(ah tvC (D++t::r))[D.length*7+5]? =some t.nv:=GM 5 (by decide)
   have q0:D.length*7+5+1<=(ah tvC (D++t::r)).length:=by rw[g9];simp;omega
   obtain⟨w,X2,ap,hw⟩:∃w X2,(∀C:List AV,eW 3 32 (.sl 3 0 [] .e) t.nv (.cells C::X)=some (.val w,.cells C::X2))/\au w=wU 3 nmC t.nm/\w.flat=[w]/\w.one=true:=by
     rw[hv];by_cases h:t.nm=[]
     . refine⟨.sl 3 0 [] .e,X,fun C=> ?_,by rw[h];rfl,rfl,rfl⟩
       rw[h];rfl
     . have hm:t.nm.length≠0:=fun e=>h (List.eq_nil_of_length_eq_zero e)
       rw[hs2 hm];refine⟨.sl 3 t.nm.length (ah nmC t.nm) (.own (X.length+1)),X++[.tok 3],fun C=> ?_,by unfold wU;rw[if_neg h];rfl,rfl,rfl⟩;simp only[eW,t3,l3,o3];rw[if_pos ⟨by omega,by omega,by omega⟩,if_neg hm,if_pos ⟨trivial,Nat.le_refl _,trivial⟩];simp only[List.length_nil,Nat.zero_mul,and_self,if_true,Nat.zero_add,List.nil_append];rfl
   obtain⟨hw1,hw2,hw3⟩:=hw
   have ro:∀H,rowOf H t.nv=t.nv:=fun H=>by rw[hv];rfl
   have st5:=Hp (D:=D) (t:=t) (t':={t with nv:=w}) (r:=r) (v:=w) 5 (by decide) rfl;have g3:(ah tvC (D++{t with nv:=w}::r))[D.length*7+3]? =some t.bv:=GM 3 (by decide)
   have q3:D.length*7+3+1<=(ah tvC (D++{t with nv:=w}::r)).length:=by rw[g9];simp;omega
   have st3:=Hp (D:=D) (t:={t with nv:=w}) (t':={t with nv:=w,bv:= .sl 1 0 [] .e}) (r:=r) (v:= .sl 1 0 [] .e) 3 (by decide) rfl
   have ro2:∀H,rowOf H t.bv=t.bv:=fun H=>by rw[hb];rfl
   have ap2:∀H,eW 1 1 (.sl 1 0 [] .e) t.bv H=some (.val (.sl 1 0 [] .e),H):=fun H=>by rw[hb];rfl
   simp(disch:=omega)only[wk,ae,↓reduceIte,reduceEqDiff,reduceEq,reduceAdd,reduceCtorEq,E3,E4,n1,g5,ro,ap,q0,hw2,hw3,st5,g3,q3,ro2,ap2,st3];refine ih (pre++[t],r) _ _ _ (by simp) ⟨by simp[a1],⟨D++[{t with nv:=w,bv:= .sl 1 0 [] .e}],X2, ?_, ?_⟩,by simp only[en,↓reduceIte,reduceEqDiff,E3], ?_,rfl⟩
   . simp only[List.append_assoc,List.cons_append,List.nil_append]
   . dsimp only;rw[List.map_append,List.map_append,hD];congr 1;show [{t with nv:=au w,bv:=au (.sl 1 0 [] .e)}]=[t.cp]
     rw[hw1];rfl
   . dsimp only;rw[List.length_append,<-ld];simp only[en,↓reduceIte,reduceEqDiff]
theorem ti {T:List Tv} (hT:okT T) (h0:T≠[]) (hl:T.length<=1000) (tk:Tk) (H:ab):pcx (cbL tab) 118 [.sl 7 T.length (ah tvC T) tk] H=some (.plain (.sl 7 T.length (ah tvC (T.map Tv.cp)) .ro)):=aS rfl (Cp hT h0 hl tk)
theorem kW (t:Tv) (r:List Tv) (x:Tv):j8 (t::r) x=if t.n=x.n then j8 r x else t::j8 r x:=by
 unfold j8;rw[List.filter_cons]
 by_cases h:t.n=x.n<;>simp[h]
theorem Au (x:Tv) (T:List Tv):eF x T≠[]:=by
 cases T with
 |nil=>simp[eF]
 |cons t r=>rw[eF];split<;>simp
theorem qD {x t:Tv}:∀{T:List Tv},t∈eF x T->t=x∨t∈T
 |[],h=>by simp[eF]at h;exact .inl h
 | y::r,h=>by
   rw[eF]at h;split at h
   . rcases List.mem_cons.1 h with h|h
     . exact .inl h
     . exact .inr (List.mem_filter.1 h).1
   . rcases List.mem_cons.1 h with h|h
     . exact .inr (h▸List.mem_cons_self ..)
     . exact(qD h).imp id (List.mem_cons_of_mem _)
theorem il (x:Tv):∀T:List Tv,(eF x T).length<=T.length+1
 |[]=>Nat.le_refl _
 | t::r=>by
   rw[eF];split
   . simp only[List.length_cons];have:=List.length_filter_le (fun t:Tv=>decide (t.n≠x.n)) (t::r);simp only[j8,List.length_cons]at*;omega
   . simp only[List.length_cons];have:=il x r;omega
theorem Ep (f:Frm) (T:List Tv) (H:ab) (hT:∀t∈T,t.ok) (hu:T.map un=T):oe H (.agg (stC f T .ro))= .agg (stC f T .ro):=by
 have e:(AV.sl 7 T.length ((ah tvC T).map au) .ro)= .sl 7 T.length (ah tvC T) .ro:=by rw[lU,hu]
 show AV.agg [_,_,_,_,_,_,_,_,_,_,.sl 7 T.length ((ah tvC T).map au) .ro]=_
 rw[e];rfl
theorem At (f:Frm) {T:List Tv} (hT:okT T) (hl:T.length<=900) {tk:Tk} (ht:tk= .ro∨tk= .e) {x:Tv} (hx:x.ok):(cbL tab).pc 90 [.agg (stC f T tk),.agg (tvC x)]=some (.plain (.agg (stC f (bZ T x) .ro))):=by
 have hh:=dM f hT (tk:=tk) (by rcases ht with rfl|rfl<;>rfl);have hhx:=tY hx
 have lx:aC (.agg (tvC x))= .agg (tvC x):=by
   obtain⟨⟨s1,t1,h1,_,q1⟩,⟨s2,t2,h2,_,q2⟩,_⟩:=hx
   have b1:au x.bv=x.bv:=by rw[h1];cases t1<;>first|rfl|cases q1
   have b2:au x.nv=x.nv:=by rw[h2];cases t2<;>first|rfl|cases q2
   show AV.agg [_,_,_,au x.bv,_,au x.nv,_]=_
   rw[b1,b2];rfl
 have ox:=iQ hx;have ux:tvC x=[.int .i64 x.n,.int .i64 x.k,.int .i64 x.l,x.bv,.int .i64 x.p,x.nv,.str (ByteArray.mk (Array.mk []))]:=rfl;have xb1:=hx.b.one;have xb2:=hx.n.one
 have okO:∀O:List Tv,(∀t∈O,t=x∨t∈T)->okT O:=fun O h t ho=>by
   rcases h t ho with rfl|h
   . exact hx
   . exact hT t h
 have okI:okT (eF x T):=okO _ fun t h=>qD h
 refine dm (fi:=c90) rfl ?_ (by simp[c90]) (by decide) ?_
 . simp only[bF,List.map_cons,List.map_nil,aY f T ht,lx,c90,hfL,AV.hf,hh,hhx,Bool.and_self]
 unfold c90;rw[List.map_cons,List.map_cons,List.map_nil,aY f T ht,lx,cF f T tk]
 have cp:=fun tk H=>ti okI (Au x T) (by have:=il x T;omega) tk H
 have pd:∀H,ef (some (.ret (.agg (stC f (bZ T x) .ro)),H))=some (.plain (.agg (stC f (bZ T x) .ro))):=by
   intro H
   have hw:∀t∈bZ T x,t.ok:=fun t h=>by
     obtain⟨y,hy,rfl⟩:=List.mem_map.1 h;exact Tv.ko (okI y hy).few
   have hu:(bZ T x).map un=bZ T x:=by
     unfold bZ;rw[List.map_map]
     exact List.map_congr_left fun t _=>nT t
   simp only[ef,Ep f _ H hw hu];rw[if_pos];show hfL _=true
   exact dM f hw rfl
 have pd:∀H,ef (some (.ret (.agg [.int .i64 f.b,.int .i64 f.i,.int .i64 f.r,.int .i64 f.t,.int .u64 5,.int .u64 6,.int .i64 9,.int .i64 (9+f.i/4),.int .i64 (9+f.i/4+f.r/4),.int .i64 (9+f.i/4+f.r/4+1),.sl 7 (eF x T).length (ah tvC ((eF x T).map Tv.cp)) .ro]),H))=some (.plain (.agg (stC f (bZ T x) .ro))):=fun H=>by
   rw[<-pd H,cF,show(bZ T x).length=(eF x T).length from List.length_map _];rfl
 have f1:(AV.agg (tvC x)).flat=tvC x:=rfl;simp(disch:=omega)only[wk,ae,↓reduceIte,reduceEqDiff,reduceEq,reduceAdd,reduceCtorEq,f1,ox]
 refine aR (fun(y:List Tv×List Tv×List Tv×Bool) E df H=>T=y.1++y.2.1/\y.2.2.1++(if y.2.2.2 then j8 y.2.1 x else eF x y.2.1)=eF x T/\E 2= .ptr 0 0/\E 3= .ptr 1 0/\E 4= .ptr 2 0/\Own H 7 (E 5) y.2.2.1.length (ah tvC y.2.2.1)/\(∀s n c,E 5≠ .sl s n c .e)/\E 6= .bool y.2.2.2/\E 7= .int .i64 ((y.1.length:Nat):Int)/\df=[]/\H[0]? =some (.cells (stC f T tk))/\H[1]? =some (.cells (tvC x))/\H[2]? =some (.cells [.int .i64 0,.int .i64 0,.int .i64 0,.int .i64 0,.int .u64 0,.int .u64 0,.int .i64 0,.int .i64 0,.int .i64 0,.int .i64 0,.sl 0 0 [] .z]))
   (fun y=>y.2.1.length) ([],T,[],false) (by decide) (.inl rfl) ⟨rfl,by simp,rfl,rfl,rfl,.inl ⟨.inl rfl,rfl,rfl⟩,(by intro s n c h;cases h),rfl,rfl,rfl,by rw[cF];rfl,rfl,rfl⟩ ?_
 intro ⟨pre,suf,O,b⟩ E df H ih hP;obtain⟨a1,a2,E2,E3,E4,ow,nE,E6,E7,hdf,h0,h1,h2⟩:=hP;dsimp only at a1 a2 ow E6 E7;rw[cF]at h0;subst hdf
 have la:T.length=pre.length+suf.length:=by rw[a1,List.length_append]
 have i0:H.length≠0:=by intro h;rw[List.eq_nil_of_length_eq_zero h]at h0;cases h0
 unfold tvC at h1
 have g2:∀o,(H.set 2 o)[2]? =some o:=fun o=>by rw[List.getElem?_set_self (List.getElem?_eq_some_iff.1 h2).1]
 cases suf with
 | nil=>
   have n1:¬(pre.length:Int)<(T.length:Int):=by rw[la];simp
   cases b with
   | true=>
     have e:eF x T=O:=by rw[<-a2];simp[j8]
     rcases ow with⟨hv,q1,q2⟩|⟨q1,g,hv,hg⟩
     . exact absurd (List.eq_nil_of_length_eq_zero q1) (by rw[<-e];exact Au x T)
     rw[<-e]at hv;have cp':=cp (.own g);simp(disch:=omega)only[wk,ae,↓reduceIte,reduceEqDiff,reduceEq,reduceAdd,reduceCtorEq,E2,E3,E4,hv,E6,E7,n1,h0,h1,h2,cp',g2,pd]
   | false=>
     have e:eF x T=O++[x]:=by rw[<-a2];rfl
     simp(disch:=omega)only[wk,ae,↓reduceIte,reduceEqDiff,reduceEq,reduceAdd,reduceCtorEq,E2,E3,E4,E6,E7,n1,h0,h1,h2,xb1,xb2];refine cm ow (by decide) ?_ ?_ (by decide) rfl (iQ hx) ?_
     . have:=congrArg List.length e;have:=il x T;simp at*;omega
     . have:=congrArg List.length e;have:=il x T;simp at*;omega
     intro H' o' k' l';have h0':=k'.cells ow rfl h0 (by intro s h;cases h);have h1':=k'.cells ow rfl h1 (by intro s h;cases h);have h2':=k'.cells ow rfl h2 (by intro s h;cases h)
     have g2':∀o,(H'.set 2 o)[2]? =some o:=fun o=>by rw[List.getElem?_set_self (List.getElem?_eq_some_iff.1 h2').1]
     have ee:ah tvC O++tvC x=ah tvC (eF x T):=by rw[e,aZ,aL];simp[ah]
     have el:O.length+1=(eF x T).length:=by rw[e];simp
     have cp':=cp (.own H.length);rw[<-ee,<-el]at cp';rw[<-el]at pd;rw[ux]at cp';simp(disch:=omega)only[wk,ae,↓reduceIte,reduceEqDiff,reduceEq,reduceAdd,reduceCtorEq,E2,E3,E4,E6,E7,h0',h1',h2',cp',g2',pd]
 | cons t r=>
   rw[List.length_cons]at la
   have n1:(pre.length:Int)<(T.length:Int):=by omega
   have d1:=dk pre t r;rw[<-a1]at d1;have htk:=hT t (by rw[a1];simp);have tb1:=htk.b.one;have tb2:=htk.n.one
   have lo:O.length<=1000:=by
     have:=congrArg List.length a2;have:=il x T
     simp at*;omega
   rw[kW,eF,kW]at a2;have lx1:(tvC x).length=1*7:=rfl;have tx:=iQ hx;have tt:=iQ htk;by_cases c1:b=false/\x.n<=t.n
   . obtain⟨rfl,c1⟩:=c1;rw[if_neg (by decide),if_pos c1]at a2;simp(disch:=omega)only[wk,ae,↓reduceIte,reduceEqDiff,reduceEq,reduceAdd,reduceCtorEq,E2,E3,E4,E6,E7,n1,h0,h1,h2,d1,c1,xb1,xb2];refine cm ow (by decide) (by omega) (by omega) (by decide) rfl tx ?_;intro H' o' k' l';have h0':=k'.cells ow rfl h0 (by intro s h;cases h);have h1':=k'.cells ow rfl h1 (by intro s h;cases h);have h2':=k'.cells ow rfl h2 (by intro s h;cases h)
     have eO:ah tvC (O++[x])=ah tvC O++tvC x:=by rw[aZ,aL];simp[ah]
     have lO:(O++[x]).length=O.length+1:=by simp
     by_cases c2:t.n=x.n
     . rw[if_pos c2]at a2;simp(disch:=omega)only[wk,ae,↓reduceIte,reduceEqDiff,reduceEq,reduceAdd,reduceCtorEq,E2,E3,E4,E6,E7,n1,h0',h1',h2',d1,c2];refine ih (pre++[t],r,O++[x],true) _ _ _ (by simp) ⟨by simp[a1],by simpa using a2,by simp only[en,↓reduceIte,reduceEqDiff,E2],by simp only[en,↓reduceIte,reduceEqDiff,E3],by simp only[en,↓reduceIte,reduceEqDiff,E4], ?_, ?_,by simp only[en,↓reduceIte,reduceEqDiff],by simp only[en,↓reduceIte,reduceEqDiff],rfl,by rw[cF];exact h0',h1',h2'⟩
       . dsimp only;rw[eO,lO];simp only[en,↓reduceIte,reduceEqDiff];exact o'
       . intro s n c;simp only[en,↓reduceIte,reduceEqDiff];intro h;cases h
     . rw[if_neg c2]at a2;simp(disch:=omega)only[wk,ae,↓reduceIte,reduceEqDiff,reduceEq,reduceAdd,reduceCtorEq,E2,E3,E4,E6,E7,n1,h0',h1',h2',d1,c2,tb1,tb2];refine cm o' (by decide) (by omega) (by omega) (by decide) rfl tt ?_;intro H2 o2 k2 l2;have h02:=k2.cells o' rfl h0' (by intro s h;cases h);have h12:=k2.cells o' rfl h1' (by intro s h;cases h);have h22:=k2.cells o' rfl h2' (by intro s h;cases h);simp(disch:=omega)only[wk,ae,↓reduceIte,reduceEqDiff,reduceEq,reduceAdd,reduceCtorEq,E7];refine ih (pre++[t],r,O++[x,t],true) _ _ _ (by simp) ⟨by simp[a1],by simpa using a2,by simp only[en,↓reduceIte,reduceEqDiff,E2],by simp only[en,↓reduceIte,reduceEqDiff,E3],by simp only[en,↓reduceIte,reduceEqDiff,E4], ?_, ?_,by simp only[en,↓reduceIte,reduceEqDiff],by simp only[en,↓reduceIte,reduceEqDiff],rfl,by rw[cF];exact h02,h12,h22⟩
       . have e2:ah tvC (O++[x,t])=ah tvC O++tvC x++tvC t:=by rw[aZ,aL,aL];simp[ah]
         have l2:(O++[x,t]).length=O.length+1+1:=by simp
         dsimp only;rw[e2,l2];simp only[en,↓reduceIte,reduceEqDiff];exact o2
       . intro s n c;simp only[en,↓reduceIte,reduceEqDiff];intro h;cases h
   . have c1':b=false->¬x.n<=t.n:=fun h h2=>c1 ⟨h,h2⟩
     have eO:ah tvC (O++[t])=ah tvC O++tvC t:=by rw[aZ,aL];simp[ah]
     have lO:(O++[t]).length=O.length+1:=by simp
     by_cases c2:t.n=x.n
     . have hb:b=true:=by
         cases b with
         |true=>rfl
         |false=>exact absurd (by omega) (c1' rfl)
       subst hb;rw[if_pos rfl,if_pos c2]at a2;simp(disch:=omega)only[wk,ae,↓reduceIte,reduceEqDiff,reduceEq,reduceAdd,reduceCtorEq,E2,E3,E4,E6,E7,n1,h0,h1,h2,d1,c2];exact ih (pre++[t],r,O,true) _ _ _ (by simp) ⟨by simp[a1],by simpa using a2,by simp only[en,↓reduceIte,reduceEqDiff,E2],by simp only[en,↓reduceIte,reduceEqDiff,E3],by simp only[en,↓reduceIte,reduceEqDiff,E4],by simp only[en,↓reduceIte,reduceEqDiff];exact ow,by simp only[en,↓reduceIte,reduceEqDiff];exact nE,by simp only[en,↓reduceIte,reduceEqDiff,E6],by simp only[en,↓reduceIte,reduceEqDiff],rfl,by rw[cF];exact h0,h1,h2⟩
     . have a3:(O++[t])++(if b then j8 r x else eF x r)=eF x T:=by
         rw[<-a2]
         cases b with
         |true=>simp[c2]
         |false=>simp[c1' rfl]
       cases b with
       | true=>
         simp(disch:=omega)only[wk,ae,↓reduceIte,reduceEqDiff,reduceEq,reduceAdd,reduceCtorEq,E2,E3,E4,E6,E7,n1,h0,h1,h2,d1,c2,tb1,tb2];refine cm ow (by decide) (by omega) (by omega) (by decide) rfl tt ?_;intro H2 o2 k2 l2;have h02:=k2.cells ow rfl h0 (by intro s h;cases h);have h12:=k2.cells ow rfl h1 (by intro s h;cases h);have h22:=k2.cells ow rfl h2 (by intro s h;cases h);simp(disch:=omega)only[wk,ae,↓reduceIte,reduceEqDiff,reduceEq,reduceAdd,reduceCtorEq,E7];refine ih (pre++[t],r,O++[t],true) _ _ _ (by simp) ⟨by simp[a1],a3,by simp only[en,↓reduceIte,reduceEqDiff,E2],by simp only[en,↓reduceIte,reduceEqDiff,E3],by simp only[en,↓reduceIte,reduceEqDiff,E4], ?_, ?_,by simp only[en,↓reduceIte,reduceEqDiff,E6],by simp only[en,↓reduceIte,reduceEqDiff],rfl,by rw[cF];exact h02,h12,h22⟩
         . dsimp only;rw[eO,lO];simp only[en,↓reduceIte,reduceEqDiff];exact o2
         . intro s n c;simp only[en,↓reduceIte,reduceEqDiff];intro h;cases h
       | false=>
         have c1:=c1' rfl;simp(disch:=omega)only[wk,ae,↓reduceIte,reduceEqDiff,reduceEq,reduceAdd,reduceCtorEq,E2,E3,E4,E6,E7,n1,h0,h1,h2,d1,c1,c2,tb1,tb2];refine cm ow (by decide) (by omega) (by omega) (by decide) rfl tt ?_;intro H2 o2 k2 l2;have h02:=k2.cells ow rfl h0 (by intro s h;cases h);have h12:=k2.cells ow rfl h1 (by intro s h;cases h);have h22:=k2.cells ow rfl h2 (by intro s h;cases h);simp(disch:=omega)only[wk,ae,↓reduceIte,reduceEqDiff,reduceEq,reduceAdd,reduceCtorEq,E7];refine ih (pre++[t],r,O++[t],false) _ _ _ (by simp) ⟨by simp[a1],a3,by simp only[en,↓reduceIte,reduceEqDiff,E2],by simp only[en,↓reduceIte,reduceEqDiff,E3],by simp only[en,↓reduceIte,reduceEqDiff,E4], ?_, ?_,by simp only[en,↓reduceIte,reduceEqDiff,E6],by simp only[en,↓reduceIte,reduceEqDiff],rfl,by rw[cF];exact h02,h12,h22⟩
         . dsimp only;rw[eO,lO];simp only[en,↓reduceIte,reduceEqDiff];exact o2
         . intro s n c;simp only[en,↓reduceIte,reduceEqDiff];intro h;cases h
theorem AL (f:Frm) {T:List Tv} (hT:okT T) (hl:T.length<=900) {tk:Tk} (ht:tk= .ro∨tk= .e) {x:Tv} (hx:x.ok) (H:ab):pcx (cbL tab) 90 [.agg (stC f T tk),.agg (tvC x)] H=some (.plain (.agg (stC f (bZ T x) .ro))):=aS rfl (At f hT hl ht hx)
end Go.Proofs.YtephfpdnhdpmkaaGreatDoor
namespace Go.Am
open Go
def eqS (a b:AV):Bool:=
 match a,b with
 | .int k x,.int k' y=>decide (k=k')&&decide (x=y)
 | .bool x,.bool y=>x==y
 | .str x,.str y=>decide (x.data.toList=y.data.toList)
 | .sl s 0 [] .z,.sl s' 0 [] .z=>Nat.beq s s'
 |_,_=>false
theorem zh {a b:AV} (h:eqS a b=true):a=b:=by
 unfold eqS at h;split at h
 . simp only[Bool.and_eq_true,decide_eq_true_eq]at h;rw[h.1,h.2]
 . rw[eq_of_beq h]
 . rename_i x y;obtain⟨⟨x⟩⟩:=x;obtain⟨⟨y⟩⟩:=y;simp only[decide_eq_true_eq]at h;rw[h]
 . rw[Nat.eq_of_beq_eq_true h]
 . cases h
def Gd:List AV->List AV->Bool
 |[],[]=>true
 |a::r,b::s=>eqS a b&&Gd r s
 |_,_=>false
theorem ui:∀{a b:List AV},Gd a b=true->a=b
 |[],[],_=>rfl
 | a::r,b::s,h=>by
   simp only[Gd,Bool.and_eq_true]at h;rw[zh h.1,ui h.2]
 |[],_::_,h=>by cases h
 |_::_,[],h=>by cases h
def eqT (a b:Tk):Bool:=
 match a,b with
 | .ro,.ro=>true
 | .z,.z=>true
 | .e,.e=>true
 |_,_=>false
def eqA (a b:AV):Bool:=
 match a,b with
 | .sl s n cs tk,.sl s' n' ds tk'=>Nat.beq s s'&&(Nat.beq n n'&&(eqT tk tk'&&Gd cs ds))
 | .agg cs,.agg ds=>Gd cs ds
 |a,b=>eqS a b
theorem GO {a b:Tk} (h:eqT a b=true):a=b:=by
 cases a<;>cases b<;>first|rfl|cases h
theorem K0 {a b:AV} (h:eqA a b=true):a=b:=by
 unfold eqA at h;split at h
 . simp only[Bool.and_eq_true]at h;rw[Nat.eq_of_beq_eq_true h.1,Nat.eq_of_beq_eq_true h.2.1,GO h.2.2.1,ui h.2.2.2]
 . rw[ui h]
 . exact zh h
def JL:List AV->List AV->Bool
 |[],[]=>true
 |a::r,b::s=>eqA a b&&JL r s
 |_,_=>false
theorem Bi:∀{a b:List AV},JL a b=true->a=b
 |[],[],_=>rfl
 | a::r,b::s,h=>by
   simp only[JL,Bool.and_eq_true]at h;rw[K0 h.1,Bi h.2]
 |[],_::_,h=>by cases h
 |_::_,[],h=>by cases h
theorem xV (x:AV):au (au x)=au x:=by
 cases x with
 |sl s n cs tk=>cases tk<;>rfl
 |_=>rfl
theorem Bz (x:AV):aC (aC x)=aC x:=by
 cases x with
 | agg cs=>
   show AV.agg ((cs.map au).map au)=AV.agg (cs.map au)
   rw[List.map_map];congr 1;exact List.map_congr_left (fun y _=>xV y)
 |sl s n cs tk=>cases tk<;>rfl
 |_=>rfl
theorem ey (l:List AV):(l.map aC).map aC=l.map aC:=by
 rw[List.map_map];exact List.map_congr_left (fun y _=>Bz y)
def reads (o:Option an):Bool:=
 match o with
 |some fi=>fi.con.isNone&&(Nat.beq fi.mode 1||(Nat.beq fi.mode 3||(Nat.beq fi.mode 5||Nat.beq fi.mode 6)))
 |none=>false
theorem GI {tab:FuncId->Option an} {cb:CB} {f:FuncId} {args:List AV} (h:reads (tab f)=true):pcA tab cb f (args.map aC)=pcA tab cb f args:=by
 unfold pcA
 cases hf:tab f with
 |none=>rfl
 | some fi=>
   rw[hf]at h;simp only[reads,Bool.and_eq_true,Bool.or_eq_true,Option.isNone_iff_eq_none]at h;obtain⟨hc,hm⟩:=h
   have ho:bF fi (args.map aC)=bF fi args:=by
     unfold bF
     rcases hm with hm|hm|hm|hm
     . rw[Nat.eq_of_beq_eq_true hm];simp only[ey]
     . rw[Nat.eq_of_beq_eq_true hm];simp only[ey]
     . rw[Nat.eq_of_beq_eq_true hm];simp only[ey]
     . rw[Nat.eq_of_beq_eq_true hm];simp only[ey]
   simp only[hc,ho,ey]
theorem o5 {tab:FuncId->Option an} {f:FuncId} {args:List AV} {r:PR} (hr:reads (tab f)=true) (h:(cbL tab).pc f (args.map aC)=some r):(cbL tab).pc f args=some r:=by
 obtain⟨n,hn⟩:=dC.1 h
 cases n with
 |zero=>cases hn
 | succ n=>
   refine dC.2 ⟨n+1, ?_⟩;have hn:pcA tab (cbs tab n) f (args.map aC)=some r:=hn;rw[GI hr]at hn;exact hn
structure Fact where
 f:FuncId
 args:List AV
 res:PR
def uj:List Fact->FuncId->List AV->Option PR
 |[],_,_=>none
 |x::r,f,args=>if Nat.beq x.f f&&JL x.args (args.map aC)then some x.res else uj r f args
def nR (tab:FuncId->Option an) (l:List Fact):Prop:=∀x∈l,reads (tab x.f)=true/\(cbL tab).pc x.f x.args=some x.res
theorem sZ {tab:FuncId->Option an}:∀{l:List Fact},nR tab l->∀f args r,uj l f args=some r->(cbL tab).pc f args=some r
 |[],_,_,_,_,h=>by cases h
 | x::l,hx,f,args,r,h=>by
   rw[uj]at h;split at h
   . rename_i hc;rw[Bool.and_eq_true]at hc;cases h;obtain⟨h1,h2⟩:=hx x (List.mem_cons_self ..);have hf:=Nat.eq_of_beq_eq_true hc.1;rw[hf,Bi hc.2]at h2;rw[hf]at h1;exact o5 h1 h2
   . exact sZ (fun y hy=>hx y (List.mem_cons_of_mem _ hy)) f args r h
theorem af {tab:FuncId->Option an} {l:List Fact} (hl:nR tab l) (n:Nat) {f:FuncId} {args:List AV} {r:PR} (h:(uO tab (uj l) n).pc f args=some r):(cbL tab).pc f args=some r:=C3 (sZ hl) n h
theorem nR.nil (tab:FuncId->Option an):nR tab []:=fun _ h=>by cases h
theorem nR.cons {tab:FuncId->Option an} {x:Fact} {l:List Fact} (h:reads (tab x.f)=true) (k:(cbL tab).pc x.f x.args=some x.res) (hl:nR tab l):nR tab (x::l):=by
 intro y hy
 rcases List.mem_cons.1 hy with rfl|hy
 . exact⟨h,k⟩
 . exact hl y hy
end Go.Am
namespace Go.Proofs.YtephfpdnhdpmkaaGreatDoor
open Go Go.Am Go.Rec
theorem Fi (n lo hi:Int) (H:ab):pcx (cbL tab) 186 [.int .i64 n,.int .i64 lo,.int .i64 hi] H=some (.plain (.bool (decide (lo<=n/\n<=hi)))):=by
 refine aS rfl (bc (fi:=Hw) rfl rfl (by simp[Hw]) (by decide) ?_);unfold Hw;rw[List.map_cons,List.map_cons,List.map_cons,List.map_nil,aE,aE,aE]
 by_cases h1:lo<=n<;>by_cases h2:n<=hi<;>simp(disch:=omega)only[wk,ae,↓reduceIte,reduceEqDiff,reduceEq,reduceAdd,reduceCtorEq,h1,h2,aB,aI,aC,au,AV.hf,and_false,false_and]
theorem En {b:Nat} (h1:1<=b) (h2:b<=40) (H:ab):pcx (cbL tab) 169 [.int .i64 (64-(b:Int)),.int .i64 (b:Nat)] H=some (.plain (.bool true)):=by
 refine aS rfl (bc (fi:=JQ) rfl rfl (by simp[JQ]) (by decide) ?_);unfold JQ;rw[List.map_cons,List.map_cons,List.map_nil,aE,aE]
 have w1:=fun H=>Fi (64-(b:Int)) 0 63 H
 have w2:=fun H=>Fi (b:Int) 1 (64-(64-(b:Int))) H
 rw[decide_eq_true (by omega)]at w1 w2;simp(disch:=omega)only[wk,ae,↓reduceIte,reduceEqDiff,reduceEq,reduceAdd,reduceCtorEq,w1,w2,aB,aI,aC,au,AV.hf]
theorem EK {b:Nat} (h2:b<=40):(2:Nat)^b*2^(64-b)=18446744073709551616/\1<=(2:Nat)^b/\1<=(2:Nat)^(64-b)/\(2:Nat)^b<=1099511627776:=by
 refine⟨?_,Nat.one_le_two_pow,Nat.one_le_two_pow, ?_⟩
 . rw[<-Nat.pow_add,show b+(64-b)=64 by omega]
 . exact Nat.pow_le_pow_right (by decide) h2
theorem CK {b:Nat} (h1:1<=b) (h2:b<=40) (H:ab):pcx (cbL tab) 170 [.int .i64 (64-(b:Int)),.int .i64 (b:Nat)] H=some (.plain (.int .u64 (((2^b-1)*2^(64-b):Nat):Int))):=by
 refine aS rfl (bc (fi:=H6) rfl rfl (by simp[H6]) (by decide) ?_);unfold H6;rw[List.map_cons,List.map_cons,List.map_nil,aE,aE];obtain⟨p1,p2,p3,p4⟩:=EK h2
 have hm:(2^b-1)*2^(64-b)+2^(64-b)=18446744073709551616:=by
   rw[<-p1]
   conv=>rhs;rw[show 2^b=(2^b-1)+1 by omega,Nat.add_mul,Nat.one_mul]
 have ec:((2^b:Nat):Int)=(2:Int)^b:=by simp
 have ed:((2^(64-b):Nat):Int)=(2:Int)^(64-b):=by simp
 have sl1:∀{xo yo:X} {ek:EqK},bE .shl ek xo yo (.int .u64 1) (.int .i64 (b:Nat))=some (.int .u64 ((2^b:Nat):Int)):=fun{xo yo ek}=>by
   have:=tS (xo:=xo) (yo:=yo) (ek:=ek) (a:=1) (b:=(b:Int)) (k:= .i64) (by omega) (by omega) (by rw[Int.toNat_natCast,<-ec];omega) (by rw[Int.toNat_natCast,<-ec];omega);rw[this,Int.toNat_natCast,<-ec,Int.one_mul]
 have sl2:∀{xo yo:X} {ek:EqK},bE .shl ek xo yo (.int .u64 (((2^b:Nat):Int)-1)) (.int .i64 (64-(b:Int)))=some (.int .u64 (((2^b-1)*2^(64-b):Nat):Int)):=fun{xo yo ek}=>by
   have e64:(64-(b:Int)).toNat=64-b:=by omega
   have em:(((2^b:Nat):Int)-1)*(2:Int)^(64-b)=(((2^b-1)*2^(64-b):Nat):Int):=by
     rw[<-ed,Int.natCast_mul];congr 1;omega
   have:=tS (xo:=xo) (yo:=yo) (ek:=ek) (a:=((2^b:Nat):Int)-1) (b:=64-(b:Int)) (k:= .i64) (by omega) (by omega) (by rw[e64,em];omega) (by rw[e64,em];omega);rw[this,e64,em]
 generalize (2:Nat)^b=P at*;generalize (P-1)*2^(64-b)=Q at*
 have n64:¬(b:Int)=64:=by omega
 simp(disch:=omega)only[wk,ae,↓reduceIte,reduceEqDiff,reduceEq,reduceAdd,reduceCtorEq,n64,sl1,sl2,aB,aI,aC,au,AV.hf,hfL]
theorem rY {w b:Nat} (hw:w<18446744073709551616) (h2:b<=40):(w&&& (2^b-1)*2^(64-b))/2^(64-b)=w/2^(64-b)/\w/2^(64-b)<2^b:=by
 obtain⟨p1,p2,p3,p4⟩:=EK h2
 have hlt:w/2^(64-b)<2^b:=by
   rw[Nat.div_lt_iff_lt_mul (by omega),p1];exact hw
 refine⟨?_,hlt⟩;rw[Nat.and_div_two_pow,Nat.mul_div_cancel _ (by omega),Nat.and_two_pow_sub_one_eq_mod,Nat.mod_eq_of_lt hlt]
theorem Ei {w b:Nat} (hw:w<18446744073709551616) (h1:1<=b) (h2:b<=40) (H:ab):pcx (cbL tab) 159 [.int .u64 (w:Nat),.int .i64 (64-(b:Int)),.int .i64 (b:Nat)] H=some (.plain (.tup [.int .u64 ((w/2^(64-b):Nat):Int),.int .i64 0])):=by
 refine aS rfl (bc (fi:=yV) rfl rfl (by simp[yV]) (by decide) ?_);unfold yV;rw[List.map_cons,List.map_cons,List.map_cons,List.map_nil,aE,aE,aE]
 have tp:=fun H=>En h1 h2 H
 have mp:=fun H=>CK h1 h2 H
 obtain⟨p1,p2,p3,p4⟩:=EK h2
 have hm:(2^b-1)*2^(64-b)<18446744073709551616:=by
   rw[<-p1];exact Nat.mul_lt_mul_of_pos_right (by omega) (by omega)
 have op:=fun H=>Kv ((2^b-1)*2^(64-b)) w hm hw H
 have fn:=(rY (w:=w) hw h2).1
 have ed:((2^(64-b):Nat):Int)=(2:Int)^(64-b):=by simp
 have sr:∀{xo yo:X} {ek:EqK},bE .shr ek xo yo (.int .u64 ((w&&& (2^b-1)*2^(64-b):Nat):Int)) (.int .i64 (64-(b:Int)))=some (.int .u64 ((w/2^(64-b):Nat):Int)):=fun{xo yo ek}=>by
   have:=jB (xo:=xo) (yo:=yo) (ek:=ek) (a:=((w&&& (2^b-1)*2^(64-b):Nat):Int)) (b:=64-(b:Int)) (k:= .i64) (by omega) (by omega);rw[this,show(64-(b:Int)).toNat=64-b by omega,<-ed,<-Int.natCast_ediv,fn]
 generalize (2^b-1)*2^(64-b)=Q at*;generalize w/2^(64-b)=R at*;simp(disch:=omega)only[wk,ae,↓reduceIte,reduceEqDiff,reduceEq,reduceAdd,reduceCtorEq,tp,mp,op,sr,aB,aI,aC,au,AV.hf,hfL]
theorem BW {k:Int} (hk:U64 k) (H:ab):pcx (cbL tab) 149 [.int .u64 k] H=some (.plain (.tup [.int .u64 (k/65536),.int .i64 (k % 65536)])):=by
 refine aS rfl (bc (fi:=HL) rfl rfl (by simp[HL]) (by decide) ?_);unfold HL;rw[List.map_cons,List.map_nil,aE]
 have fp:=fun H=>CE k hk.1 hk.2 H
 have sr:∀{xo yo:X} {ek:EqK},bE .shr ek xo yo (.int .u64 k) (.int .u64 16)=some (.int .u64 (k/65536)):=fun{xo yo ek}=>by
   have e16:(2:Int)^(Int.toNat 16)=65536:=by simp[show Int.toNat 16=16 from rfl]
   have:=jB (xo:=xo) (yo:=yo) (ek:=ek) (a:=k) (b:=16) (k:= .u64) (by decide) (by decide)
   rwa[e16]at this
 have wr:IntKind.i64.wrap (k % 65536)=k % 65536:=wrap_i64 (by have:=Int.emod_nonneg k (show(65536:Int)≠0 by decide);omega) (by have:=Int.emod_lt_of_pos k (show(0:Int)<65536 by decide);omega);simp(disch:=omega)only[wk,ae,↓reduceIte,reduceEqDiff,reduceEq,reduceAdd,reduceCtorEq,fp,sr,wr,aB,aI,aC,au,AV.hf,hfL]
theorem pe {n:Nat} (hn:n<64) (H:ab):pcx (cbL tab) 116 [.int .i64 (n:Nat)] H=some (.plain (.int .u64 ((2^n:Nat):Int))):=by
 refine aS rfl (bc (fi:=Iu) rfl rfl (by simp[Iu]) (by decide) ?_);unfold Iu;rw[List.map_cons,List.map_nil,aE];simp(disch:=omega)only[wk,ae,↓reduceIte,reduceEqDiff,reduceEq,reduceAdd,reduceCtorEq]
 refine aR (fun(j:Nat) E df H=>j<=n/\E 0= .int .i64 (n:Nat)/\E 3= .int .u64 ((2^j:Nat):Int)/\E 4= .int .i64 (j:Nat)/\df=[])
   (fun j=>n-j) 0 (by decide) (.inl rfl) ⟨by omega,rfl,rfl,rfl,rfl⟩ ?_
 intro j E df H ih hP;obtain⟨a1,E0,E3,E4,hdf⟩:=hP;subst hdf;have hp:2^(j+1)<=(2:Nat)^64:=Nat.pow_le_pow_right (by decide) (by omega)
 have hs:(2:Nat)^(j+1)=2*2^j:=by rw[Nat.pow_succ,Nat.mul_comm]
 by_cases hj:j<n
 . have n1:(j:Int)<(n:Int):=by omega
   have hq:2^(j+1)<=(2:Nat)^63:=Nat.pow_le_pow_right (by decide) (by omega)
   have e:(2:Int)*((2^j:Nat):Int)=((2^(j+1):Nat):Int):=by omega
   have w:IntKind.u64.wrap ((2:Int)*((2^j:Nat):Int))=((2^(j+1):Nat):Int):=by rw[e];exact wrap_u64 (by omega) (by omega)
   have bm:∀{xo yo:X} {ek:EqK},bE .mul ek xo yo (.int .u64 2) (.int .u64 ((2^j:Nat):Int))=some (.int .u64 ((2^(j+1):Nat):Int)):=fun{xo yo ek}=>by rw[<-w];rfl
   refine(?_ :_);generalize hA:(2:Nat)^j=A at*;generalize hB:(2:Nat)^(j+1)=B at*;simp(disch:=omega)only[wk,ae,↓reduceIte,reduceEqDiff,reduceEq,reduceAdd,reduceCtorEq,E0,E3,E4,n1,bm];exact ih (j+1) _ _ _ (by omega) ⟨by omega,by simp only[en,↓reduceIte,reduceEqDiff,E0],by simp only[en,↓reduceIte,reduceEqDiff,hB],by simp only[en,↓reduceIte,reduceEqDiff],rfl⟩
 . obtain rfl:j=n:=by omega
   have n1:¬(j:Int)<(j:Int):=by omega
   generalize hA:(2:Nat)^j=A at*;simp(disch:=omega)only[wk,ae,↓reduceIte,reduceEqDiff,reduceEq,reduceAdd,reduceCtorEq,E0,E3,E4,n1,aB,aI,aC,au,AV.hf,hfL]
theorem Bo {w b:Nat} (hw:w<18446744073709551616) (h1:1<=b) (h2:b<=40) (H:ab):pcx (cbL tab) 162 [.int .u64 (w:Nat),.int .i64 (64-(b:Int)),.int .i64 (b:Nat)] H=some (.plain (.int .u64 ((w/2^(64-b):Nat):Int))):=by
 refine aS rfl (bc (fi:=HI) rfl rfl (by simp[HI]) (by decide) ?_);unfold HI;rw[List.map_cons,List.map_cons,List.map_cons,List.map_nil,aE,aE,aE]
 have pa:∀H,pcx (cbL tab) 116 [.int .i64 (64-(b:Int))] H=some (.plain (.int .u64 ((2^(64-b):Nat):Int))):=fun H=>by
   have:=pe (n:=64-b) (by omega) H
   rwa[show((64-b:Nat):Int)=64-(b:Int)by omega]at this
 have pb:=fun H=>pe (n:=b) (by omega) H
 obtain⟨p1,p2,p3,p4⟩:=EK h2
 have hlt:w/2^(64-b)<2^b:=by
   rw[Nat.div_lt_iff_lt_mul (by omega),p1];exact hw
 have hle:w/2^(64-b)<=w:=Nat.div_le_self _ _;have dv:(w:Int)/((2^(64-b):Nat):Int)=((w/2^(64-b):Nat):Int):=(Int.natCast_ediv _ _).symm
 have md:((w/2^(64-b):Nat):Int) % ((2^b:Nat):Int)=((w/2^(64-b):Nat):Int):=by rw[<-Int.natCast_emod,Nat.mod_eq_of_lt hlt]
 have n64:¬(b:Int)=64:=by omega
 generalize w/2^(64-b)=R at*;generalize (2:Nat)^b=P at*;generalize (2:Nat)^(64-b)=Q at*
 have q0:¬(Q:Int)=0:=by omega
 have q1:¬(P:Int)=0:=by omega
 simp(disch:=omega)only[wk,ae,↓reduceIte,reduceEqDiff,reduceEq,reduceAdd,reduceCtorEq,pa,pb,dv,md,n64,q0,q1,aB,aI,aC,au,AV.hf,hfL]
end Go.Proofs.YtephfpdnhdpmkaaGreatDoor
namespace Go.Proofs.YtephfpdnhdpmkaaGreatDoor
open Go Go.Am Go.Proofs
def ra0:aH:=(.region [qo 10 .iU,qm 2 10,qo 3 (.mv (qi 0))])
theorem Lz:bq Tryz.prog (Tryz.f110.code.sub [0])=some ra0:=by kernel_rfl
def ra6:aH:=(.region [qm 30 3,qm 31 0,qo 32 (.bf (.t 31)),qf 33 0 32,qf 34 0 33,qf 35 2 34,ql 36 35,qn 37 .leq (.t 30) (.t 36),qc 38 105 [(.t 37),(qi 289)]])
theorem KY:bq Tryz.prog (Tryz.f110.code.sub [1,1,0])=some ra6:=by kernel_rfl
def rb1:List ai:=[qm 11 0,qo 12 (.bf (.t 11)),qf 13 10 12,ql 14 13]
theorem Ls:cK (dE Tryz.prog (Tryz.f110.code.sub [1,0,0]).opsOf) (Tryz.f110.code.sub [1,0,0]).opsOf.toList.dropLast=some rb1:=by kernel_rfl
def rb3:List ai:=[qx 19 18 1,qo 5 (.alloc [(.int .i64 0),(.int .i64 0),(.int .i64 0),(.sl 0 0 [] .z),(.int .i64 0),(.sl 0 0 [] .z),(.str (ByteArray.mk (Array.mk [])))]),qe (.store 7 (.t 5) (.t 19))]
theorem Ll:cK (dE Tryz.prog (Tryz.f110.code.sub [1,0,1,0,0,1,1,0,0]).opsOf) (Tryz.f110.code.sub [1,0,1,0,0,1,1,0,0]).opsOf.toList.tail=some rb3:=by kernel_rfl
def rbd:aH:=(.seq (.region [qm 20 0,qf 21 5 5,ql 22 21,qm 23 2,qc 24 136 [(.t 20),(.t 22),(.t 23)]]) (.region [qm 25 3,qf 26 5 5,ql 27 26,qo 28 (.len 0 (.t 27)),qn 29 .add (.t 25) (.t 28),qm 3 29]))
theorem LY:bq Tryz.prog (Tryz.f110.code.sub [1,0,1,0,0,1,1,0,1])=some rbd:=by kernel_rfl
def rc1:List ai:=[qm 39 0,qo 40 (.bf (.t 39)),qf 41 10 40,ql 42 41]
theorem KW:cK (dE Tryz.prog (Tryz.f110.code.sub [1,1,1,0]).opsOf) (Tryz.f110.code.sub [1,1,1,0]).opsOf.toList.dropLast=some rc1:=by kernel_rfl
def rc3:List ai:=[qx 47 46 0,qx 48 46 1,qo 6 (.alloc [(.int .i64 0)]),qo 7 (.alloc [(.int .i64 0),(.int .i64 0),(.int .i64 0),(.sl 0 0 [] .z),(.int .i64 0),(.sl 0 0 [] .z),(.str (ByteArray.mk (Array.mk [])))]),qs 6 (.t 47),qe (.store 7 (.t 7) (.t 48))]
theorem Mw:cK (dE Tryz.prog (Tryz.f110.code.sub [1,1,1,1,0,0,1,1,0,0]).opsOf) (Tryz.f110.code.sub [1,1,1,1,0,0,1,1,0,0]).opsOf.toList.tail=some rc3:=by kernel_rfl
def rcd:aH:=(.seq (.seq (.region [ql 49 6,qn 50 .eql (.t 49) (qi 1)]) (.cond (.t 50) (.seq (.region [qf 51 1 7,ql 52 51,qn 53 .eql (.t 52) (qi 2),qm 54 53,qg 55 (.fld 4 (.t 7)) 54 true,qg 56 (.load 1 false (.t 55)) 54 true,qg 57 (.bin .eql .num (.t 56) (qi 1)) 54 true,qk 58 54 (.t 57) qz,qm 59 58,qg 60 (.fld 2 (.t 7)) 59 true,qg 61 (.load 1 false (.t 60)) 59 true,qg 62 (.bin .eql .num (.t 61) (qi 1)) 59 true,qk 63 59 (.t 62) qz,qm 64 63,qg 65 (.mv (.t 2)) 64 true,qg 66 (.load 1 false (.t 6)) 64 true,qg 67 (.lookup 0 (.int .i64 0) (.t 65) (.t 66) false) 64 true,qg 68 (.bin .eql .num (.t 67) (qi 0)) 64 true,qk 69 64 (.t 68) qz,qc 70 105 [(.t 69),(qi 289)]]) (.exit 3)) .skip)) (.seq (.region [qm 71 2,ql 72 6,qo 73 (.lookup 0 (.int .i64 0) (.t 71) (.t 72) false),qf 74 2 7,ql 75 74,qn 76 .eql (.t 73) (.t 75),qm 77 76,qg 78 (.fld 2 (.t 7)) 77 true,qg 79 (.load 1 false (.t 78)) 77 true,qg 80 (.br 108 [(.t 79),(qi 1),(qi 65535)]) 77 true,qk 81 77 (.t 80) qz,qc 82 105 [(.t 81),(qi 289)]]) (.seq (.region [qf 83 1 7,ql 84 83,qn 85 .eql (.t 84) (qi 2)]) (.cond (.t 85) (.seq (.drawn [qm 86 0,qo 87 (.bf (.t 86)),qf 88 10 87,ql 89 88,qf 90 4 7,ql 91 90,qo 92 (.lookup 0 (.agg [(.int .i64 0),(.int .i64 0),(.int .i64 0),(.sl 0 0 [] .z),(.int .i64 0),(.sl 0 0 [] .z),(.str (ByteArray.mk (Array.mk [])))]) (.t 89) (.t 91) false),qo 8 (.alloc [(.int .i64 0),(.int .i64 0),(.int .i64 0),(.sl 0 0 [] .z),(.int .i64 0),(.sl 0 0 [] .z),(.str (ByteArray.mk (Array.mk [])))])] [qe (.store 7 (.t 8) (.t 92))]) (.seq (.region [qf 93 5 8,ql 94 93,qo 95 (.fO 138 [(.t 6)]),qc 96 137 [(.t 94),(.t 95)],qm 9 96]) (.region [qf 97 2 7,ql 98 97,qn 99 .eql (.t 98) (qi 1),qm 100 99,qg 101 (.mv (.t 9)) 100 true,qk 102 100 (.t 101) qz,qm 103 102,qg 104 (.mv (.t 0)) 103 true,qg 105 (.fld 4 (.t 7)) 103 true,qg 106 (.load 1 false (.t 105)) 103 true,qg 107 (.load 1 false (.t 6)) 103 true,qg 108 (.br 139 [(.t 104),(.t 106),(.t 107)]) 103 true,qg 109 (.un .not (.t 108)) 103 true,qk 110 103 (.t 109) qz,qc 111 105 [(.t 110),(qi 289)]]))) .skip))))
theorem My:bq Tryz.prog (Tryz.f110.code.sub [1,1,1,1,0,0,1,1,0,1])=some rcd:=by kernel_rfl
end Go.Proofs.YtephfpdnhdpmkaaGreatDoor
namespace Go.Proofs.YtephfpdnhdpmkaaGreatDoor
open Go Go.Am Go.RowKit
theorem NS:wv Tryz.prog 141 tzC:=by
 intro args r hg V W us hi hgl hr;refine⟨eS Tryz.func141 rfl rfl us, ?_⟩;show CallsIn Fence.wide 0 Tryz.prog 141 us W (fG V W r)
 refine callsIn_wide.2 ?_;unfold tzC at hg;split at hg
 case h_2=>cases hg
 rename_i x;split at hg
 case isFalse=>cases hg
 rename_i hx;cases hg;obtain⟨t,fr,hw⟩:=hgl 0 tzT rfl
 have hus:us= #[.int .u64 x]:=by
   match hu:us.toList,hr with
   | [v],hr=>
     have h0:=hr.head;cases h0;rw[<-Array.toList_inj,hu]
   |[],hr=>have:=hr.1;simp at this
   |_::_::_,hr=>have:=hr.1;simp at this
 subst hus;refine(Iv x hx.1 hx.2 W t fr hw).mono ?_
 rintro e W' ⟨rfl,rfl⟩
 exact⟨V.imm,Below.refl _ _,hi,fun p v h=>h,fun p v h=> .inl h,.int _ _⟩
end Go.Proofs.YtephfpdnhdpmkaaGreatDoor
namespace Go.Proofs.YtephfpdnhdpmkaaGreatDoor
open Go Go.Proofs Go.Shelf Go.RowKit
def MP:Go.Shelf.Ren:=⟨fun|4=>199|n=>n,fun|22=>81|25=>5|n=>n,fun|n=>n⟩
theorem Kr:Go.Proofs.Lays8.n4 Tryz.prog MP:={
 mixed:=by kernel_rfl
 f4:=⟨Tryz.f199.name,by kernel_rfl,Tryz.func199.trans (congrArg some (by kernel_rfl))⟩
 t0:=Tryz.underlying0
 a0:=Tryz.isAgg0
 z0:=Tryz.sizeOf0
 v0:=Tryz.zeroValue0
 t3:=Tryz.underlying3
 a3:=Tryz.isAgg3
 z3:=Tryz.sizeOf3
 v3:=Tryz.zeroValue3
 t4:=Tryz.underlying4
 a4:=Tryz.isAgg4
 z4:=Tryz.sizeOf4
 v4:=Tryz.zeroValue4
 t9:=Tryz.underlying9
 a9:=Tryz.isAgg9
 z9:=Tryz.sizeOf9
 v9:=Tryz.zeroValue9
 t20:=Tryz.underlying20
 a20:=Tryz.isAgg20
 z20:=Tryz.sizeOf20
 v20:=Tryz.zeroValue20
 t22:=Tryz.underlying81
 a22:=Tryz.isAgg81
 z22:=Tryz.sizeOf81
 v22:=Tryz.zeroValue81
}
theorem Ks:∃i,Tryz.prog.info? 5=some i/\i.zero=some (.int .u8 0)/\i.size=1/\i.bytes=1:=by
 have h:(Tryz.prog.info? 5).map (fun i=>(i.zero,i.size,i.bytes))=some (some (.int .u8 0),1,1):=by kernel_rfl
 obtain⟨i,hi,h2⟩:=Option.map_eq_some_iff.1 h;simp only[Prod.mk.injEq]at h2;exact⟨i,hi,h2.1,h2.2.1,h2.2.2⟩
def Mb (w:World) (n:Nat) (e:Ending) (w':World):Prop:=∃v,e= .returned v/\w'.ownsRow w.heap.size 5 1 v 0 []/\Below w.heap.size w w'/\(n=0->v= .slice none 0 0)
theorem Fq (n:Nat) (hn:n<=4294967296) (w:World):
   Calls Tryz.prog 199 #[.slice none 0 0,.int .i64 n] w (Mb w n):=by
 by_cases h0:n=0
 . subst h0;refine(Any8.slices_Grow_room Kr none 0 0 0 w (Nat.le_refl _) (by omega) (by omega) (by omega)).mono ?_
   rintro e w' ⟨rfl,rfl⟩
   exact⟨_,rfl,World.ownsRow_nil _ _ _ _,Below.refl _ _,fun _=>rfl⟩
 . obtain⟨i,hi,hz,hs,hb⟩:=Ks;have hg:=grownCap_ge w (0+n) 0 5;have hgl:=grownCap_le_maxLen w (0+n) 0 5 (by simp only[maxLen];omega);refine(Any8.slices_Grow_grow Kr i (.int .u8 0) hi hz (by omega) none 0 0 n [] w (Nat.le_refl _) (by omega) (by rw[hb];omega) (by omega) (by simp) (fun _=>rfl) (fun a h=>by cases h)).mono ?_
   rintro e w' ⟨rfl,rfl⟩
   refine⟨_,rfl,World.ownsRow_made w.drew _ _ (Nat.le_refl _) hgl ?_,((Below.refl _ w).drew).alloc (Nat.le_refl _) _,fun h=>absurd h h0⟩;have z1:(.int .u8 0:Value).cells.size=1:=rfl;have g1:grownCap w (0+n) 0 (MP.t 25)=grownCap w (0+n) 0 5:=rfl;simp only[Array.size_append,size_zeroCells,z1,Nat.mul_one,List.size_toArray,List.length_nil,g1];omega
structure k8 where
 a:Option Addr
 n:Nat
 c:Nat
 xs:List Value
def k8.ok (w:World) (r:k8):Prop:=r.xs.length=r.n*1/\(r.a=none->r.n=0/\r.c=0)/\(∀a,r.a=some a->∀j u,r.xs[j]? =some u->w.cell? (a.add j)=some u)/\∀u∈r.xs,u.oneCell'=true
def gV (l:List k8):Nat:=(l.map (·.n)).sum
theorem ny (l:List k8) (k:Nat):gV (l.take k)<=gV l:=by
 induction l generalizing k with
 |nil=>simp
 | cons r l ih=>
   cases k with
   |zero=>simp[gV]
   | succ k=>
     have:=ih k
     simp only[gV,List.take_succ_cons,List.map_cons,List.sum_cons]at this ⊢;omega
theorem sG (l:List k8) (k:Nat) (r:k8) (h:l[k]? =some r):gV (l.take (k+1))=gV (l.take k)+r.n:=by
 rw[List.take_add_one,h];simp[gV]
theorem yQ (w wr:World) (v:Value) (n:Nat) (xs:List Value) (r:k8) (ho:wr.ownsRow w.heap.size 5 1 v n xs) (hb:Below w.heap.size w wr) (hr:r.ok wr) (hs:n+r.n<=4294967296):
   ∃v' w',(∀ty,(Builtin.append_ #[81,81] ty #[v,.slice r.a r.n r.c]).run Tryz.prog wr= .ok v' w')/\w'.ownsRow w.heap.size 5 1 v' (n+r.n) (xs++r.xs)/\Below w.heap.size w w'/\(v= .slice none 0 0->r.n=0->v'= .slice none 0 0):=by
 obtain⟨i,hi,hz,hsz,hby⟩:=Ks;obtain⟨h1,h2,h3,h4⟩:=hr;obtain⟨a,m,c,ys⟩:=r;dsimp only at*;have hsize:=hb.size
 cases a with
 | none=>
   obtain⟨rfl,rfl⟩:=h2 rfl;have:ys=[]:=List.eq_nil_of_length_eq_zero (by omega);subst this;refine⟨v,wr,fun ty=>run_append_owned_none wr w.heap.size 81 ty 5 i 1 Tryz.underlying81 hi v n xs ho,by simpa using ho,hb,fun h _=>h⟩
 | some a=>
   have key:∀ty,∃v' w',(Builtin.append_ #[81,81] ty #[v,.slice (some a) m c]).run Tryz.prog wr= .ok v' w'/\w'.ownsRow w.heap.size 5 1 v' (n+m) (xs++ys)/\wr.grownBy w' v.ownBlock/\(v'= .slice none 0 0↔v= .slice none 0 0/\m=0):=fun ty=>
     run_append_own wr w.heap.size 81 ty 5 i (.int .u8 0) 1 1 Tryz.underlying81 hi hz hsz hby rfl (by omega) v n xs ho a m c ys (by omega) (h3 a rfl) h4 (by simp only[maxLen];omega) (by omega) hsize
   obtain⟨v',w',k1,k2,k3,k4⟩:=key 0;refine⟨v',w',fun ty=> ?_,k2,hb.grown k3 hsize (fun k hk=>(ho.lt k hk).1),fun h h'=>k4.2 ⟨h,h'⟩⟩;rw[<-k1];rfl
def KC (rows:List k8) (w:World) (e:Ending) (w':World):Prop:=∃v,e= .returned v/\w'.ownsRow w.heap.size 5 1 v (gV rows) (rows.flatMap (·.xs))/\Below w.heap.size w w'/\(gV rows=0->v= .slice none 0 0)
set_option maxHeartbeats 4000000 in
set_option maxRecDepth 1000000 in
theorem wG (base:Addr) (N cap:Nat) (rows:List k8) (w:World) (hl:rows.length=N) (hN:N<=4294967296)
   (hc:∀i r,rows[i]? =some r->w.cell? (base.add i)=some (.slice r.a r.n r.c)) (hr:∀r∈rows,r.ok w) (ht:gV rows<=4294967296):
   Calls Tryz.prog 193 #[.slice (some base) N cap] w (KC rows w):=by
 go_enter Tryz.func193,Tryz.ntmps193
 go_wp2
 go_loopw [3,11] (fun s i wr=>∃(k:Nat),k<=N/\i= .int .i64 k/\s= .int .i64 (gV (rows.take k):Nat)/\wr=w) (fun s i _=>N-(RowKit.intOf i).toNat)
 case atStart=>exact⟨0,by omega,rfl,rfl,rfl⟩
 case round=>
   obtain⟨k,hk,rfl,rfl,hww⟩:=hrel;have hww:=hww.symm;subst hww;by_cases hp:k<N
   . obtain⟨r,hrk⟩:∃r,rows[k]? =some r:=⟨_,List.getElem?_eq_getElem (by omega)⟩;have hcell:=hc k r hrk;have hss:=sG rows k r hrk;have hle:=ny rows (k+1);rw[hss]at hle
     have hw:wrap64 ((gV (rows.take k):Int)+(r.n:Int))=(gV (rows.take k):Int)+(r.n:Int):=by unfold wrap64;omega
     have hneg:¬((gV (rows.take k):Int)+(r.n:Int)<0):=by omega
     clear hrk hc
     go_wp2
     refine⟨⟨k+1,by omega,rfl, ?_,trivial⟩, ?_⟩
     . rw[hss];rfl
     . show N-((k:Int)+1).toNat<N-(k:Int).toNat
       omega
   . obtain rfl:k=N:=by omega
     have hall:rows.take k=rows:=List.take_of_length_le (by omega);rw[hall]
     go_wp2_with (go_at_call 199;refine(Fq (gV rows) ht w).mono ?_)
     rintro e W1 ⟨v,rfl,ho,hb,hn0⟩
     go_wp2
     go_loopw [6,27] (fun s i wq=>∃(j:Nat),j<=k/\i= .int .i64 j/\wq.ownsRow w.heap.size 5 1 s (gV (rows.take j)) ((rows.take j).flatMap (·.xs))/\Below w.heap.size w wq/\(gV rows=0->s= .slice none 0 0)) (fun s i _=>k-(RowKit.intOf i).toNat)
     case atStart=>exact⟨0,by omega,rfl,ho,hb,hn0⟩
     case round=>
       obtain⟨j,hj,rfl,ho1,hb1,hn1⟩:=hrel;by_cases hp:j<k
       . obtain⟨r,hrk⟩:∃r,rows[j]? =some r:=⟨_,List.getElem?_eq_getElem (by omega)⟩;have hcell:=hc j r hrk;have hblk:(base.add j).block<w.heap.size:=World.block_lt_of_cell? w (base.add j) hcell;rw[<-hb1.cell (p:=base.add j) hblk]at hcell;have hss:=sG rows j r hrk;have hle:=ny rows (j+1);rw[hss]at hle
         have hok:r.ok wr:=by
           obtain⟨q1,q2,q3,q4⟩:=hr r (List.mem_of_getElem? hrk)
           exact⟨q1,q2,fun a ha i u hu=>by
             have:=q3 a ha i u hu;rw[<-this]
             exact hb1.cell (World.block_lt_of_cell? w _ this),q4⟩
         have hxs:(rows.take (j+1)).flatMap (·.xs)=(rows.take j).flatMap (·.xs)++r.xs:=by
           rw[List.take_add_one,hrk];simp
         obtain⟨v',w',k1,k2,k3,k4⟩:=yQ w wr _ _ _ r ho1 hb1 hok (by omega);rw[<-hxs,<-hss]at k2;clear hrk hok hc hr
         go_wp2_with (at_builtin;refine Lib.wpList_append_run _ rfl _ _ _ _ rfl _ _ rfl rfl _ _ (k1 _) ?_)
         refine⟨⟨j+1,by omega,rfl,k2,k3,fun h0=>k4 (hn1 h0) (by have:=ny rows (j+1);omega)⟩, ?_⟩;show k-((j:Int)+1).toNat<k-(j:Int).toNat
         omega
       . obtain rfl:j=k:=by omega
         rw[hall]at ho1
         go_wp2
         go_ret
         exact⟨_,rfl,ho1,hb1,hn1⟩
end Go.Proofs.YtephfpdnhdpmkaaGreatDoor
namespace Go.Proofs.YtephfpdnhdpmkaaGreatDoor
open Go Go.Am Go.RowKit
variable [dy]
theorem sR (b o i:Nat):(⟨b,o,none⟩:Addr).add i=⟨b,o+i,none⟩:=by unfold Addr.add;split<;>simp_all
theorem xh {V:View} {W:World} (hi:∀p v,V.imm p=some v->W.cell? p=some v/\v.oneCell'=true) {s n k:Nat} {cs:List AV} {tk:Tk} {v:Value} (h:Rep V (.sl s n cs tk) v) (hs:n=0∨s=k) (hn:n*k<=cs.length):
   ∃(a:Option Addr) (c:Nat) (xs:List Value),v= .slice a n c/\xs.length=n*k/\(a=none->n=0/\c=0)/\(∀a',a=some a'->∀j u,xs[j]? =some u->W.cell? (a'.add j)=some u)/\(∀u∈xs,u.oneCell'=true)/\aj V (cs.take (n*k)) xs:=by
 have main:∀(b o cap:Nat) (f:Nat->Value),v= .slice (some ⟨b,o,none⟩) n cap->(∀i,i<cs.length->V.imm ⟨b,o+i,none⟩=some (f i))->(∀(i:Nat) (x:AV),cs[i]? =some x->Rep V x (f i))->∃(a:Option Addr) (c:Nat) (xs:List Value),v= .slice a n c/\xs.length=n*k/\(a=none->n=0/\c=0)/\(∀a',a=some a'->∀j u,xs[j]? =some u->W.cell? (a'.add j)=some u)/\(∀u∈xs,u.oneCell'=true)/\aj V (cs.take (n*k)) xs:=by
   intro b o cap f e h1 h2;refine⟨some ⟨b,o,none⟩,cap,(List.range (n*k)).map f,e,by simp,fun h=>(by cases h), ?_, ?_, ?_, ?_⟩
   . intro a ha j u hu;cases ha;simp only[List.getElem?_map,Option.map_eq_some_iff]at hu;obtain⟨q,hk,rfl⟩:=hu;obtain⟨hlt,rfl⟩:=List.getElem?_eq_some_iff.1 hk;simp only[List.length_range]at hlt;simp only[List.getElem_range];rw[sR];exact(hi _ _ (h1 j (by omega))).1
   . intro u hu;obtain⟨j,hj,rfl⟩:=List.mem_map.1 hu;have:=List.mem_range.1 hj;exact(hi _ _ (h1 j (by omega))).2
   . simp;omega
   . intro i x v hx hv;simp only[List.getElem?_map,Option.map_eq_some_iff]at hv;obtain⟨q,hk,rfl⟩:=hv;obtain⟨hlt,rfl⟩:=List.getElem?_eq_some_iff.1 hk;simp only[List.getElem_range];rw[List.getElem?_take]at hx;split at hx
     . exact h2 i x hx
     . cases hx
 cases h with
 |slnil=>exact⟨none,0,[],rfl,by simp,fun _=>⟨rfl,rfl⟩,fun a h=>(by cases h),fun u h=>(by cases h),by simpa using aj.nil _⟩
 |slx _ a=>exact⟨some a,0,[],rfl,by simp,fun h=>(by cases h),fun a _ j u h=>(by simp at h),fun u h=>(by cases h),by simpa using aj.nil _⟩
 |sl f a1 a2 a3 a4 a5=>exact main _ _ _ f rfl a4 a5
 |slo f a1 a2 a3 a4 a5=>exact main _ 0 _ f rfl (fun i h=>by rw[Nat.zero_add];exact a4 i h) a5
theorem J9 {V:View} {W:World} (hi:∀p v,V.imm p=some v->W.cell? p=some v/\v.oneCell'=true) {s n:Nat} {cs:List AV} {tk:Tk} {v:Value} (h:Rep V (.sl s n cs tk) v) (hs:n=0∨s=1) (hn:n*1<=cs.length):
   ∃r:k8,v= .slice r.a r.n r.c/\r.ok W/\aj V (cs.take (n*1)) r.xs/\r.n=n:=by
 obtain⟨a,c,xs,h1,h2,h3,h4,h5,h6⟩:=xh hi h hs hn;exact⟨⟨a,n,c,xs⟩,h1,⟨h2,h3,h4,h5⟩,h6,rfl⟩
theorem wX {V:View} {W:World} (hi:∀p v,V.imm p=some v->W.cell? p=some v/\v.oneCell'=true):∀{cells:List AV} {vals:List Value} {L:List (List AV)},aj V cells vals->AE cells=some L→
   ∃rows:List k8,rows.length=cells.length/\(∀(i:Nat) (r:k8),rows[i]? =some r->vals[i]? =some (.slice r.a r.n r.c))/\(∀r∈rows,r.ok W)/\aj V L.flatten (rows.flatMap (·.xs))/\gV rows*1=L.flatten.length
 | [],vals,L,h,hL=>by
   cases hL;exact⟨[],rfl,fun i r h=>(by simp at h),fun r h=>(by cases h),aj.nil _,rfl⟩
 |x::cells,[],L,h,hL=>by have:=h.1;simp at this
 | x::cells,v::vals,L,h,hL=>by
   unfold AE at hL;split at hL
   . cases ‹_::_=[]›
   . rename_i s n cs tk r heq;cases heq;split at hL
     . rename_i hc;obtain⟨L',h1,rfl⟩:=Option.map_eq_some_iff.1 hL;obtain⟨r0,k1,k2,k3,k4⟩:=J9 hi h.head hc.1 hc.2;obtain⟨rows,j1,j2,j3,j4,j5⟩:=wX hi h.tail h1;have hxl:=k3.1;rw[List.length_take]at hxl;refine⟨r0::rows,by simp[j1],fun i r hr=> ?_,fun r hr=> ?_, ?_, ?_⟩
       . cases i with
         |zero=>simp at hr;subst hr;simp[k1]
         |succ i=>simpa using j2 i r (by simpa using hr)
       . rcases List.mem_cons.1 hr with rfl|hr
         . exact k2
         . exact j3 r hr
       . exact k3.append j4
       . have:=k2.1;simp only[gV,List.map_cons,List.sum_cons,List.flatten_cons,List.length_append,List.length_take]at j5 ⊢;omega
     . cases hL
   . cases hL
theorem KV (f:FuncId) (hf:∀(W:World) (us:Array Value),(callFunc f us).run Tryz.prog W= .ok (.enter f us) W)
   (hw:∀(base:Addr) (N cap:Nat) (rows:List k8) (w:World),rows.length=N->N<=4294967296->(∀(i:Nat) (r:k8),rows[i]? =some r->w.cell? (base.add i)=some (.slice r.a r.n r.c))->(∀r∈rows,r.ok w)->gV rows<=4294967296->Calls Tryz.prog f #[.slice (some base) N cap] w (KC rows w)):
   wv Tryz.prog f AT:=by
 intro args r hg V W us hi _ hr;refine⟨hf W us, ?_⟩;show CallsIn Fence.wide 0 Tryz.prog f us W (fG V W r)
 refine callsIn_wide.2 ?_;unfold AT at hg;split at hg
 case h_2=>cases hg
 rename_i n cs tk;split at hg
 case h_2=>cases hg
 rename_i L hL;split at hg
 case isFalse=>cases hg
 rename_i hcnd;obtain⟨hn0,hnc,hn,htl⟩:=hcnd;cases hg
 have hus:∃v,us= #[v]/\Rep V (.sl 1 n cs tk) v:=by
   have h1:=hr.1
   match hu:us.toList,hr with
   |[v],hr=>exact⟨v,by rw[<-Array.toList_inj,hu],hr.head⟩
   |[],hr=>have:=hr.1;simp at this
   |_::_::_,hr=>have:=hr.1;simp at this
 obtain⟨v,rfl,hv⟩:=hus;obtain⟨a,c,xs,e0,q1,q2,q3,q4,Bw⟩:=xh (k:=1) hi hv (.inr rfl) (by omega);rw[Nat.mul_one]at q1 Bw;obtain⟨rows,j1,j2,j3,j4,j5⟩:=wX hi Bw hL;have hxl:=Bw.1;rw[List.length_take]at hxl
 cases a with
 |none=>have:=(q2 rfl).1;omega
 | some a=>
   subst e0;refine(hw a n c rows W (by rw[j1,List.length_take];omega) hn (fun i r hr=>q3 a rfl i _ (j2 i r hr)) j3 (by omega)).mono ?_
   rintro e W' ⟨v,rfl,ho,hb,hnil⟩
   have hsn:gV rows=L.flatten.length/1:=by omega
   rw[hsn]at ho hnil;by_cases hz:L.flatten=[]
   . rw[if_pos hz];obtain rfl:=hnil (by rw[hz];rfl);refine⟨V.imm,hb,fun p v hp=> ?_,fun p v hp=>hp,fun p v hp=> .inl hp,.slnil 0⟩;obtain⟨h1,h2⟩:=hi p v hp;exact⟨by rw[hb.cell (World.block_lt_of_cell? W p h1)];exact h1,h2⟩
   . rw[if_neg hz]
     have hnz:L.flatten.length/1≠0:=fun e=>hz (List.eq_nil_of_length_eq_zero (by omega))
     have hcells:=fun{g}=>ho.cells (g:=g)
     rcases ho.2 with⟨rfl,h0⟩|⟨g,cap,cur,rfl,hbg,hg,hncap,hcm,hcs,htk⟩
     . exact absurd h0 hnz
     have hcell:=ho.cells (g:=g) rfl
     have hy1:∀u∈rows.flatMap (·.xs),u.oneCell'=true:=by
       intro u hu;obtain⟨r,hr,hu⟩:=List.mem_flatMap.1 hu;exact(j3 r hr).2.2.2 u hu
     generalize rows.flatMap (·.xs)=ys at*
     have hlt:∀p v,V.imm p=some v->p.block<W.heap.size:=fun p v hp=>World.block_lt_of_cell? W p (hi p v hp).1
     refine⟨fun p=>if p.block=g/\p.spot=none then ys[p.off]? else V.imm p,hb,fun p v hp=> ?_,fun p v hp=> ?_,fun p v hp=> ?_, ?_⟩
     . simp only at hp;split at hp
       . rename_i hpg;obtain⟨b,o,s⟩:=p;simp only at hpg hp;obtain⟨rfl,rfl⟩:=hpg;have:=hcell _ _ hp;rw[sR,Nat.zero_add]at this;exact⟨this,hy1 _ (List.mem_of_getElem? hp)⟩
       . obtain⟨h1,h2⟩:=hi p v hp;exact⟨by rw[hb.cell (hlt p v hp)];exact h1,h2⟩
     . simp only;rw[if_neg (by rintro ⟨h,_⟩;have:=hlt p v hp;omega)];exact hp
     . simp only at hp;split at hp
       . rename_i hpg;exact .inr (by omega)
       . exact .inl hp
     . have hyl:=j4.1
       have hIV:∀(Lc:Nat->Option Am.Loc),(∀i l,V.loc i=some l->Lc i=some l)->∀{x:AV} {u:Value},Rep V x u->Rep ⟨fun p=>if p.block=g/\p.spot=none then ys[p.off]? else V.imm p,Lc⟩ x u:=fun Lc hLc x u hr=>by
         refine Rep.mono (V:=V) (V':=⟨fun p=>if p.block=g/\p.spot=none then ys[p.off]? else V.imm p,Lc⟩) ⟨fun p v hp=> ?_,hLc⟩ hr;show(if p.block=g/\p.spot=none then ys[p.off]? else V.imm p)=some v
         rw[if_neg (by rintro ⟨h,_⟩;have:=hlt p v hp;omega)];exact hp
       refine⟨5,ys,g,cap,rfl,ho,fun off hoff=> ?_, ?_,fun Lc g' hLc hg'=> ?_⟩
       . simp only[and_self,if_true];exact List.getElem?_eq_none (by omega)
       . refine .sl (fun i=>ys.getD i undef) (by omega) (by omega) hncap (fun i hi2=> ?_) (fun i x hx=> ?_) (.inl rfl)
         . simp only[if_true,and_self,Nat.zero_add]
           rw[List.getD_eq_getElem?_getD,List.getElem?_eq_getElem (by omega)];rfl
         . obtain⟨u,hu,hr⟩:=j4.get hx;rw[List.getD_eq_getElem?_getD,hu];exact hIV _ (fun _ _ h=>h) hr
       . refine .slo (fun i=>ys.getD i undef) (by omega) hncap hg' (fun i hi2=> ?_) (fun i x hx=> ?_)
         . simp only[if_true,and_self]
           rw[List.getD_eq_getElem?_getD,List.getElem?_eq_getElem (by omega)];rfl
         . obtain⟨u,hu,hr⟩:=j4.get hx;rw[List.getD_eq_getElem?_getD,hu];exact hIV _ hLc hr
theorem Li:wv Tryz.prog 193 AT:=KV 193 (fun _ us=>eS Tryz.func193 rfl rfl us) wG
end Go.Proofs.YtephfpdnhdpmkaaGreatDoor
namespace Go.Proofs.YtephfpdnhdpmkaaGreatDoor
open Go Go.Am Go.Proofs Go.RowKit
theorem Je {P:Program} {w:World} {t:TypeId} {fuel:Nat} {cs:List Value} {n:Int} {p:List MemPlace} (hu:P.underlying t=some (.int .u8))
   (h:DataW.trod (H:=Unit) (fun _=>()) P w 0 (fun _=>true) false fuel t cs=some (.lit (.int .u8 n),p)):cs=[.int .u8 n]:=by
 cases fuel with
 |zero=>cases h
 | succ fuel=>
   unfold DataW.trod at h;rw[hu]at h
   match cs,h with
   | [.int k m],h=>
     simp only[]at h;split at h
     . rename_i hk;obtain⟨rfl,_⟩:=hk
       cases h;rfl
     . cases h
theorem Gf {P:Program} {w:World} {t e:TypeId} {fuel:Nat} {cs:List Value} {p:List MemPlace} {l:List Int} (hu:P.underlying t=some (.array l.length e)) (he:P.underlying e=some (.int .u8)) (h1:P.cellsOf e=1) (hn:P.cellsOf t=l.length)
   (h:DataW.trod (H:=Unit) (fun _=>()) P w 0 (fun _=>true) false fuel t cs=some (.agg (l.map fun n=> .lit (.int .u8 n)),p)):cs=l.map fun n=>Value.int .u8 n:=by
 cases fuel with
 |zero=>cases h
 | succ fuel=>
   unfold DataW.trod at h;rw[hu]at h;simp only[h1]at h;split at h
   case isFalse=>cases h
   rename_i hl;rw[hn]at hl;obtain⟨xs,hx,e2⟩:=Option.map_eq_some_iff.1 h
   injection e2 with e3 e4
   injection e3 with e3
   have hlen:=mapM_some_length hx;rw[List.length_range]at hlen;apply List.ext_getElem?;intro i;by_cases hi:i<l.length
   . have g:=mapM_some_get hx i i (List.getElem?_range hi)
     have hxi:i<xs.length:=by omega
     rw[List.getElem?_eq_getElem hxi]at g
     have e5:(xs[i]).1= .lit (.int .u8 l[i]):=by
       have:=congrArg (fun q=>q[i]?) e3;simpa[hxi,hi] using this
     generalize xs[i]=q at g e5;obtain⟨d,pp⟩:=q;have e5:d=_:=e5;subst e5;have r:=Je he g;rw[Nat.mul_one]at r
     have:cs[i]? =some (Value.int .u8 l[i]):=by
       have hc:i<cs.length:=by omega
       rw[List.drop_eq_getElem_cons hc,List.take_succ_cons]at r
       injection r with r1 _
       rw[List.getElem?_eq_getElem hc,r1]
     rw[this,List.getElem?_map,List.getElem?_eq_getElem hi];rfl
   . rw[List.getElem?_eq_none (by omega),List.getElem?_eq_none (by simp;omega)]
theorem tX {w:World} (h:laidMetH Tryz.prog [("math/bits.deBruijn64tab",Rows.laid_math_bits_deBruijn64tab)] w):ka w:=by
 intro g cs hg;cases hg;rw[MakeChecks.laidMetH_plain _ _ _ (by kernel_rfl)]at h;obtain⟨ps,⟨g,t,cs,fuel,p,q,h1,h2,h3,h4,_⟩,_⟩:=h;obtain rfl:g=0:=Option.some.inj (h1.symm.trans (show Tryz.prog.globalNamed "math/bits.deBruijn64tab" =some 0 by kernel_rfl));obtain rfl:t=220:=Option.some.inj (h2.symm.trans (show(Tryz.prog.globals[0]?).map (·.type)=some 220 by kernel_rfl))
 have h5:(match w.heap[0]? with|some (Obj.cells cs _ _)=>some cs|_=>none)=some cs:=by
   have:World.var? Tryz.prog w "math/bits.deBruijn64tab" =(match w.heap[0]? with|some (Obj.cells cs _ _)=>some cs|_=>none):=by
     unfold World.var?
     rw[h1];rfl
   rw[<-this];exact h3
 have r:=Gf (l:=tzL.map Int.ofNat) (e:=5) (show Tryz.prog.underlying 220=some (.array 64 5)by kernel_rfl) (by kernel_rfl) (by kernel_rfl) (by kernel_rfl) h4
 have hc:cs=tzT:=by
   apply Array.toList_inj.1;rw[r];unfold tzT;simp
 split at h5
 . rename_i t fr he;cases h5;exact⟨t,fr,by rw[he,hc]⟩
 . cases h5
end Go.Proofs.YtephfpdnhdpmkaaGreatDoor
