/- TEXTS OF THE WALKS, put together: RM TZ0 TZ1 BG1. No condition but those stated. -/
import Derived.Test.YtephfpdnhdpmkaaGreatDoorAmSet
import Derived.Test.YtephfpdnhdpmkaaGreatDoorProg
import Derived.Test.YtephfpdnhdpmkaaGreatDoorChecked
import Derived.WalkKit
import Derived.BigCall
import Derived.Below
import Derived.Test.YtephfpdnhdpmkaaGreatDoorAmDef
open Int (reduceEq)
open Nat (reduceEqDiff reduceAdd reduceMul reduceLT reduceLeDiff)
set_option linter.all false
set_option maxHeartbeats 8000000
set_option maxRecDepth 1000000
namespace Go.Rec
open Go Go.Am
def byA (b:UInt8):List AV:=[KQ b]
def aD (j:Int):List AV:=[.int .u64 j]
def fA (p:Int×Int):List AV:=[.int .i64 p.1,.int .u64 p.2]
instance : pL byA 1 := ⟨fun _ => rfl⟩
instance : pL aD 1 := ⟨fun _ => rfl⟩
instance : pL fA 2 := ⟨fun _ => rfl⟩
theorem fN (l:List Int):hfL (ah aD l)=true:=bR (fun _=>rfl) l
theorem jd (l:List Int):aA (ah aD l)=true:=vZ (fun _=>rfl) l
def KJ:List UInt8->Int
 |[]=>0
 |b::r=>(b.toNat:Int)+256*KJ r
def Nb:List UInt8->List Int
 |[]=>[]
 |b::r=>KJ ((b::r).take 8)::Nb ((b::r).drop 8)
termination_by l=>l.length
decreasing_by simp;omega
def iY (w:Int):Nat->List UInt8
 |0=>[]
 |n+1=>UInt8.ofNat (w % 256).toNat::iY (w/256) n
theorem xz (w:Int) (n:Nat):(iY w n).length=n:=by
 induction n generalizing w with
 |zero=>rfl
 |succ n ih=>rw[iY,List.length_cons,ih]
theorem Bq (w:Int) (n:Nat):iY w (n+1)=iY w n++[UInt8.ofNat (w/256^n % 256).toNat]:=by
 induction n generalizing w with
 |zero=>simp[iY]
 | succ n ih=>
   rw[iY,ih (w/256),iY,List.cons_append]
   have:w/256/256^n=w/256^(n+1):=by
     rw[Int.pow_succ,Int.mul_comm,Int.ediv_ediv_of_nonneg (by decide)]
   rw[this]
def fg:List Int->List UInt8
 |[]=>[]
 |w::r=>iY w 8++fg r
theorem xI (l:List Int):(fg l).length=8*l.length:=by
 induction l with
 |nil=>rfl
 |cons w r ih=>rw[fg,List.length_append,xz,ih,List.length_cons];omega
theorem vB (a b:List Int):fg (a++b)=fg a++fg b:=by
 induction a with
 |nil=>rfl
 |cons w r ih=>rw[List.cons_append,fg,ih,fg,List.append_assoc]
def Nw (s:ByteArray):Bool:=s.toList==[46]||s.toList==[46,46]
def Mj (l:List UInt8):Bool:=l.all fun b=>b !=0&&b !=47
def MR (s:ByteArray):Int:=if(s.toList==[])=true∨Nw s=true∨Mj s.data.toList=false then 140 else if 120<s.size then 141 else 0
def KL (n:Int) (s:ByteArray):Prop:=1<=n/\n<=256/\MR s=0
instance (n : Int) (s : ByteArray) : Decidable (KL n s) := inferInstanceAs (Decidable (_ /\ _ /\ _))
def D4 (n:Int) (s:ByteArray):List Int:=(n+65536*(s.size:Int))::Nb s.data.toList
def LV (n:Int) (s:ByteArray):List Int:=D4 n s++List.replicate (16-(D4 n s).length) 0
def Kl (w:List Int):ByteArray:=⟨((fg (w.drop 1)).take (w.headD 0/65536).toNat).toArray⟩
def Km (w:List Int):Int:=w.headD 0 % 65536
def isM (w:List Int):Prop:=w.length=16/\w.headD 0/65536<=120/\KL (Km w) (Kl w)/\LV (Km w) (Kl w)=w
instance (w : List Int) : Decidable (isM w) := inferInstanceAs (Decidable (_ /\ _ /\ _ /\ _))
end Go.Rec
namespace Go.Proofs.YtephfpdnhdpmkaaGreatDoor
open Go Go.Proofs Go.RowKit
def tzL:List Nat:=[0,1,56,2,57,49,28,3,61,58,42,50,38,29,17,4,62,47,59,36,45,43,51,22,53,39,33,30,24,18,12,5,63,55,48,27,60,41,37,16,46,35,44,21,52,32,23,11,54,26,40,15,34,20,31,10,25,14,19,9,13,8,7,6]
def tzT:Array Value:=(tzL.map fun n=>Value.int .u8 (n:Nat)).toArray
def tzQ (x:Int):Int:=IntKind.u64.wrap (bits BinOp.and IntKind.u64 x (IntKind.u64.wrap (-x))*285870213051353865)/288230376151711744
def tzM (x:Int):Int:=if x=0 then 64 else((tzL[(tzQ x).toNat]?.getD 0:Nat):Int)
theorem Nf (y:Int):IntKind.u64.wrap y=y % 18446744073709551616:=by
 have e:IntKind.u64.wrap y=if(IntKind.u64.signed&&decide (y % (2^IntKind.u64.bits:Int)≥(2^(IntKind.u64.bits-1):Int)))=true then y % (2^IntKind.u64.bits:Int)-(2^IntKind.u64.bits:Int)else y % (2^IntKind.u64.bits:Int):=rfl
 rw[e,if_neg (by simp[IntKind.signed])];rfl
theorem GD (x:Int):0<=tzQ x/\tzQ x<64:=by
 unfold tzQ;rw[Nf];omega
theorem Jn:tzL.length=64:=rfl
theorem Cc:tzL.all (fun n=>Nat.blt n 64)=true:=rfl
theorem Kh {x:Int} {w:World} {t:TypeId} {fr:Nat×Nat} (hg:w.heap[0]? =some (.cells tzT t fr)):∃n:Nat,n=tzL[(tzQ x).toNat]?.getD 0/\n<64/\w.cell? ⟨0,(tzQ x).toNat,none⟩=some (.int .u8 (n:Int)):=by
 have hq:=GD x
 have hl:(tzQ x).toNat<tzL.length:=by rw[Jn];omega
 refine⟨_,rfl, ?_, ?_⟩
 . rw[List.getElem?_eq_getElem hl,Option.getD_some];have:=List.all_eq_true.1 Cc _ (List.getElem_mem hl);simpa[Nat.blt_eq] using this
 . simp only[World.cell?,hg,tzT];rw[List.getElem?_toArray,List.getElem?_map,List.getElem?_eq_getElem hl,Option.getD_some];rfl
theorem Iv (x:Int) (h0:0<=x) (h1:x<=18446744073709551615) (w:World) (t:TypeId) (fr:Nat×Nat) (hg:w.heap[0]? =some (.cells tzT t fr)):
   Calls Tryz.prog 141 #[.int .u64 x] w (fun e w'=>e= .returned (.int .i64 (tzM x))/\w'=w):=by
 obtain⟨n,hn,hn64,hcell⟩:=Kh (x:=x) hg;have hq:=GD x;unfold tzM;rw[<-hn];clear hn hg
 have hw:wrap64 (n:Int)=n:=by unfold wrap64;omega
 unfold tzQ at hcell hq
 go_enter Tryz.func141,Tryz.ntmps141
 by_cases hx:x=0
 . rw[if_pos hx]
   go_wp2
   go_ret
   exact⟨rfl,rfl⟩
 . rw[if_neg hx]
   go_wp2
   go_ret
   exact⟨rfl,rfl⟩
end Go.Proofs.YtephfpdnhdpmkaaGreatDoor
namespace Go.Proofs.YtephfpdnhdpmkaaGreatDoor
open Go Go.Am
def tzC:List AV->Option PR
 |[.int .u64 x]=>if 0<=x/\x<=18446744073709551615 then some (.plain (.int .i64 (tzM x)))else none
 |_=>none
end Go.Proofs.YtephfpdnhdpmkaaGreatDoor
namespace Go.Am
open Go
def AE:List AV->Option (List (List AV))
 |[]=>some []
 | .sl s n cs _::r=>if(n=0∨s=1)/\n*1<=cs.length then(AE r).map (cs.take (n*1):: ·)else none
 |_=>none
def AT:List AV->Option PR
 | [.sl 1 n cs _]=>match AE (cs.take n)with
   |some L=>if 0<n/\n<=cs.length/\n<=4294967296/\L.flatten.length<=4294967296 then some (if L.flatten=[] then .plain (.sl 0 0 [] .z)else .fresh 1 (L.flatten.length/1) L.flatten)else none
   |none=>none
 |_=>none
end Go.Am
