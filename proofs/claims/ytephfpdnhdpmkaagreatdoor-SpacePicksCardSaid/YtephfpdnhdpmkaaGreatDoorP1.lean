/- TEXTS OF THE WALKS, put together: RM TZ0 TZ1 BG1. No condition but those stated. -/
import Derived.Test.YtephfpdnhdpmkaaGreatDoorAmSet
import Derived.Test.YtephfpdnhdpmkaaGreatDoorProg
import Derived.Test.YtephfpdnhdpmkaaGreatDoorChecked
import Derived.WalkKit
import Derived.BigCall
import Derived.Below
import Derived.Test.YtephfpdnhdpmkaaGreatDoorAmDef
open Int (reduceEq)
open Nat (reduceEqDiff reduceAdd reduceMul reduceLT reduceLeDiff)
set_option linter.all false
set_option maxHeartbeats 8000000
set_option maxRecDepth 1000000
namespace Go.Rec
open Go Go.Am
def byA (b:UInt8):List AV:=[Lz b]
def bL (j:Int):List AV:=[.int .u64 j]
def OP (p:Int×Int):List AV:=[.int .i64 p.1,.int .u64 p.2]
instance : rI byA 1 := ⟨fun _ => rfl⟩
instance : rI bL 1 := ⟨fun _ => rfl⟩
instance : rI OP 2 := ⟨fun _ => rfl⟩
theorem Kv (l:List Int):hfL (ah bL l)=true:=bz (fun _=>rfl) l
theorem yg (l:List Int):aw (ah bL l)=true:=ye (fun _=>rfl) l
def LF:List UInt8->Int
 |[]=>0
 |b::r=>(b.toNat:Int)+256*LF r
def Ox:List UInt8->List Int
 |[]=>[]
 |b::r=>LF ((b::r).take 8)::Ox ((b::r).drop 8)
termination_by l=>l.length
decreasing_by simp;omega
def ju (w:Int):Nat->List UInt8
 |0=>[]
 |n+1=>UInt8.ofNat (w % 256).toNat::ju (w/256) n
theorem wo (w:Int) (n:Nat):(ju w n).length=n:=by
 induction n generalizing w with
 |zero=>rfl
 |succ n ih=>rw[ju,List.length_cons,ih]
theorem Cw (w:Int) (n:Nat):ju w (n+1)=ju w n++[UInt8.ofNat (w/256^n % 256).toNat]:=by
 induction n generalizing w with
 |zero=>simp[ju]
 | succ n ih=>
   rw[ju,ih (w/256),ju,List.cons_append]
   have:w/256/256^n=w/256^(n+1):=by
     rw[Int.pow_succ,Int.mul_comm,Int.ediv_ediv_of_nonneg (by decide)]
   rw[this]
def fA:List Int->List UInt8
 |[]=>[]
 |w::r=>ju w 8++fA r
theorem vt (l:List Int):(fA l).length=8*l.length:=by
 induction l with
 |nil=>rfl
 |cons w r ih=>rw[fA,List.length_append,wo,ih,List.length_cons];omega
theorem xr (a b:List Int):fA (a++b)=fA a++fA b:=by
 induction a with
 |nil=>rfl
 |cons w r ih=>rw[List.cons_append,fA,ih,fA,List.append_assoc]
def Oy (s:ByteArray):Bool:=s.toList==[46]||s.toList==[46,46]
def Mk (l:List UInt8):Bool:=l.all fun b=>b !=0&&b !=47
def NW (s:ByteArray):Int:=if(s.toList==[])=true∨Oy s=true∨Mk s.data.toList=false then 140 else if 120<s.size then 141 else 0
def Lo (n:Int) (s:ByteArray):Prop:=1<=n/\n<=256/\NW s=0
instance (n : Int) (s : ByteArray) : Decidable (Lo n s) := inferInstanceAs (Decidable (_ /\ _ /\ _))
def D7 (n:Int) (s:ByteArray):List Int:=(n+65536*(s.size:Int))::Ox s.data.toList
def Ng (n:Int) (s:ByteArray):List Int:=D7 n s++List.replicate (16-(D7 n s).length) 0
def LG (w:List Int):ByteArray:=⟨((fA (w.drop 1)).take (w.headD 0/65536).toNat).toArray⟩
def Li (w:List Int):Int:=w.headD 0 % 65536
def isM (w:List Int):Prop:=w.length=16/\w.headD 0/65536<=120/\Lo (Li w) (LG w)/\Ng (Li w) (LG w)=w
instance (w : List Int) : Decidable (isM w) := inferInstanceAs (Decidable (_ /\ _ /\ _ /\ _))
end Go.Rec
namespace Go.Proofs.YtephfpdnhdpmkaaGreatDoor
open Go Go.Proofs Go.RowKit
def tzL:List Nat:=[0,1,56,2,57,49,28,3,61,58,42,50,38,29,17,4,62,47,59,36,45,43,51,22,53,39,33,30,24,18,12,5,63,55,48,27,60,41,37,16,46,35,44,21,52,32,23,11,54,26,40,15,34,20,31,10,25,14,19,9,13,8,7,6]
def tzT:Array Value:=(tzL.map fun n=>Value.int .u8 (n:Nat)).toArray
def tzQ (x:Int):Int:=IntKind.u64.wrap (bits BinOp.and IntKind.u64 x (IntKind.u64.wrap (-x))*285870213051353865)/288230376151711744
def tzM (x:Int):Int:=if x=0 then 64 else((tzL[(tzQ x).toNat]?.getD 0:Nat):Int)
theorem Od (y:Int):IntKind.u64.wrap y=y % 18446744073709551616:=by
 have e:IntKind.u64.wrap y=if(IntKind.u64.signed&&decide (y % (2^IntKind.u64.bits:Int)≥(2^(IntKind.u64.bits-1):Int)))=true then y % (2^IntKind.u64.bits:Int)-(2^IntKind.u64.bits:Int)else y % (2^IntKind.u64.bits:Int):=rfl
 rw[e,if_neg (by simp[IntKind.signed])];rfl
theorem HG (x:Int):0<=tzQ x/\tzQ x<64:=by
 unfold tzQ;rw[Od];omega
theorem J0:tzL.length=64:=rfl
theorem CU:tzL.all (fun n=>Nat.blt n 64)=true:=rfl
theorem KR {x:Int} {w:World} {t:TypeId} {fr:Nat×Nat} (hg:w.heap[0]? =some (.cells tzT t fr)):∃n:Nat,n=tzL[(tzQ x).toNat]?.getD 0/\n<64/\w.cell? ⟨0,(tzQ x).toNat,none⟩=some (.int .u8 (n:Int)):=by
 have hq:=HG x
 have hl:(tzQ x).toNat<tzL.length:=by rw[J0];omega
 refine⟨_,rfl, ?_, ?_⟩
 . rw[List.getElem?_eq_getElem hl,Option.getD_some];have:=List.all_eq_true.1 CU _ (List.getElem_mem hl);simpa[Nat.blt_eq] using this
 . simp only[World.cell?,hg,tzT];rw[List.getElem?_toArray,List.getElem?_map,List.getElem?_eq_getElem hl,Option.getD_some];rfl
theorem IQ (x:Int) (h0:0<=x) (h1:x<=18446744073709551615) (w:World) (t:TypeId) (fr:Nat×Nat) (hg:w.heap[0]? =some (.cells tzT t fr)):
   Calls Tryz.prog 141 #[.int .u64 x] w (fun e w'=>e= .returned (.int .i64 (tzM x))/\w'=w):=by
 obtain⟨n,hn,hn64,hcell⟩:=KR (x:=x) hg;have hq:=HG x;unfold tzM;rw[<-hn];clear hn hg
 have hw:wrap64 (n:Int)=n:=by unfold wrap64;omega
 unfold tzQ at hcell hq
 go_enter Tryz.func141,Tryz.ntmps141
 by_cases hx:x=0
 . rw[if_pos hx]
   go_wp2
   go_ret
   exact⟨rfl,rfl⟩
 . rw[if_neg hx]
   go_wp2
   go_ret
   exact⟨rfl,rfl⟩
end Go.Proofs.YtephfpdnhdpmkaaGreatDoor
namespace Go.Proofs.YtephfpdnhdpmkaaGreatDoor
open Go Go.Am
def tzC:List AV->Option PR
 |[.int .u64 x]=>if 0<=x/\x<=18446744073709551615 then some (.plain (.int .i64 (tzM x)))else none
 |_=>none
end Go.Proofs.YtephfpdnhdpmkaaGreatDoor
namespace Go.Am
open Go
def BQ:List AV->Option (List (List AV))
 |[]=>some []
 | .sl s n cs _::r=>if(n=0∨s=1)/\n*1<=cs.length then(BQ r).map (cs.take (n*1):: ·)else none
 |_=>none
def A0:List AV->Option PR
 | [.sl 1 n cs _]=>match BQ (cs.take n)with
   |some L=>if 0<n/\n<=cs.length/\n<=4294967296/\L.flatten.length<=4294967296 then some (if L.flatten=[] then .plain (.sl 0 0 [] .z)else .fresh 1 (L.flatten.length/1) L.flatten)else none
   |none=>none
 |_=>none
end Go.Am
