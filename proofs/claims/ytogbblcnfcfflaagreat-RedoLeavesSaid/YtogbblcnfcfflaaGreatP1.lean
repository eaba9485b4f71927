/- TEXTS OF THE WALKS, put together: RM IM CB0. No condition but those stated. -/
import Derived.Test.YtogbblcnfcfflaaGreatAmSet
import Derived.Test.YtogbblcnfcfflaaGreatAmDef
open Int (reduceEq)
open Nat (reduceEqDiff reduceAdd reduceMul reduceLT reduceLeDiff)
set_option linter.all false
set_option maxHeartbeats 8000000
set_option maxRecDepth 1000000
namespace Go.Rec
open Go Go.Am
def byA (b:UInt8):List AV:=[byteA b]
def u64A (j:Int):List AV:=[.int .u64 j]
def putA (p:Int×Int):List AV:=[.int .i64 p.1,.int .u64 p.2]
instance : Even byA 1 := ⟨fun _ => rfl⟩
instance : Even u64A 1 := ⟨fun _ => rfl⟩
instance : Even putA 2 := ⟨fun _ => rfl⟩
theorem hf_u64A (l:List Int):hfL (encs u64A l)=true:=hfL_encs (fun _=>rfl) l
theorem one_u64A (l:List Int):allOne (encs u64A l)=true:=allOne_encs (fun _=>rfl) l
def wordM:List UInt8->Int
 |[]=>0
 |b::r=>(b.toNat:Int)+256*wordM r
def layM:List UInt8->List Int
 |[]=>[]
 |b::r=>wordM ((b::r).take 8)::layM ((b::r).drop 8)
termination_by l=>l.length
decreasing_by simp;omega
def bytN (w:Int):Nat->List UInt8
 |0=>[]
 |n+1=>UInt8.ofNat (w % 256).toNat::bytN (w/256) n
def bytM:List Int->List UInt8
 |[]=>[]
 |w::r=>bytN w 8++bytM r
def dotsM (s:ByteArray):Bool:=s.toList==[46]||s.toList==[46,46]
def plainM (l:List UInt8):Bool:=l.all fun b=>b !=0&&b !=47
def nameM (s:ByteArray):Int:=if(s.toList==[])=true∨dotsM s=true∨plainM s.data.toList=false then 140 else if 120<s.size then 141 else 0
def recOk (n:Int) (s:ByteArray):Prop:=1<=n/\n<=256/\nameM s=0
instance (n : Int) (s : ByteArray) : Decidable (recOk n s) := inferInstanceAs (Decidable (_ /\ _ /\ _))
def wordsL (n:Int) (s:ByteArray):List Int:=(n+65536*(s.size:Int))::layM s.data.toList
def wordsM (n:Int) (s:ByteArray):List Int:=wordsL n s++List.replicate (16-(wordsL n s).length) 0
def textM (w:List Int):ByteArray:=⟨((bytM (w.drop 1)).take (w.headD 0/65536).toNat).toArray⟩
def headM (w:List Int):Int:=w.headD 0 % 65536
def isM (w:List Int):Prop:=w.length=16/\w.headD 0/65536<=120/\recOk (headM w) (textM w)/\wordsM (headM w) (textM w)=w
instance (w : List Int) : Decidable (isM w) := inferInstanceAs (Decidable (_ /\ _ /\ _ /\ _))
end Go.Rec
namespace Go.Ino
open Go Go.Am Go.Rec
abbrev Ext:=Int×Int×Int
def extA (x:Ext):List AV:=[.int .i64 x.1,.int .i64 x.2.1,.int .i64 x.2.2]
def i64A (j:Int):List AV:=[.int .i64 j]
instance : Even extA 3 := ⟨fun _ => rfl⟩
instance : Even i64A 1 := ⟨fun _ => rfl⟩
theorem hf_extA (l:List Ext):hfL (encs extA l)=true:=hfL_encs (fun _=>rfl) l
theorem hf_i64A (l:List Int):hfL (encs i64A l)=true:=hfL_encs (fun _=>rfl) l
def rightM (x:Ext):Prop:=0<=x.1/\x.1<128/\1<=x.2.2/\x.2.2<=128-x.1/\1<=x.2.1/\x.2.1<2048/\x.2.2<=2048-x.2.1
instance (x : Ext) : Decidable (rightM x) := inferInstanceAs (Decidable (_ /\ _ /\ _ /\ _ /\ _ /\ _ /\ _))
def layN:Nat->Int->Int->List Int->Option (List Int)
 |0,_,_,t=>some t
 |n+1,f,d,t=>if t.getD f.toNat 0≠0∨d∈t then none else layN n (f+1) (d+1) (t.set f.toNat d)
def layL:List Ext->List Int->Option (List Int)
 |[],t=>some t
 | x::r,t=>if rightM x then(match layN x.2.2.toNat x.1 x.2.1 t with
   |some t'=>layL r t'
   |none=>none)else none
def addE (out:List Ext) (i d:Int):List Ext:=
 match out.getLast? with
 |some l=>if l.1+l.2.2=i/\l.2.1+l.2.2=d then out.dropLast++[(l.1,l.2.1,l.2.2+1)] else out++[(i,d,1)]
 |none=>[(i,d,1)]
def listF:List Int->Int->List Ext->List Ext
 |[],_,out=>out
 |d::r,i,out=>listF r (i+1) (if d=0 then out else addE out i d)
def listM (t:List Int):List Ext:=listF t 0 []
def t0:List Int:=List.replicate 128 0
def ofM (l:List Ext):Option (List Int):=
 if l.length<=10 then(match layL l t0 with
   |some t=>if listM t=l then some t else none
   |none=>none)else none
structure Tab (t:List Int):Prop where
 len:t.length=128
 val:∀v∈t,0<=v/\v<2048
theorem Tab.t0:Tab t0:=⟨List.length_replicate,fun v hv=>by have:=(List.mem_replicate.1 hv).2;omega⟩
theorem Tab.set {t:List Int} (h:Tab t) {i:Nat} {d:Int} (h0:0<=d) (h1:d<2048):Tab (t.set i d):=
 ⟨by rw[List.length_set];exact h.len,fun v hv=>by
   rcases List.mem_or_eq_of_mem_set hv with h2|h2
   . exact h.val v h2
   . omega⟩
def wordE (x:Ext):Int:=x.1+65536*x.2.1+1099511627776*x.2.2
def wordsE (l:List Ext):List Int:=l.map wordE++List.replicate (10-l.length) 0
def extW (w:Int):Ext:=(w % 65536,w/65536 % 16777216,w/1099511627776 % 65536)
def readE (ws:List Int):List Ext:=(ws.filter (· ≠0)).map extW
structure Ino where
 kind:Int
 links:Int
 size:Int
 map:List Ext
 root:Int
 parent:Int
 target:ByteArray
def zeroI:Ino:=⟨0,0,0,[],0,0,⟨#[]⟩⟩
def flatM (l:List UInt8):Bool:=l.all fun b=>b !=0
def tabOkI (t:List Int) (size:Int):Bool:=(List.range 128).all fun i=>t.getD i 0==0||decide (512*(i:Int)<size)
def mapOk (l:List Ext) (size:Int):Bool:=match ofM l with
 |some t=>tabOkI t size
 |none=>false
def bodyI (n:Ino):Prop:=
 (n.kind=0/\n.links=0/\n.size=0/\n.map=[]/\n.root=0/\n.parent=0/\n.target.toList=[])∨
 (n.kind=1/\n.root=0/\n.parent=0/\n.target.toList=[]/\0<=n.size/\n.size<=65536/\mapOk n.map n.size=true)∨
 (n.kind=2/\n.size=0/\n.map=[]/\n.target.toList=[]/\1<=n.root/\n.root<=2047/\1<=n.parent/\n.parent<=256)∨
 (n.kind=3/\n.size=0/\n.map=[]/\n.root=0/\n.parent=0/\1<=n.target.size/\n.target.size<=112/\flatM n.target.data.toList=true)
def okI (n:Ino):Prop:=0<=n.links/\n.links<=65535/\bodyI n
instance (n : Ino) : Decidable (bodyI n) := inferInstanceAs (Decidable (_ ∨ _ ∨ _ ∨ _))
instance (n : Ino) : Decidable (okI n) := inferInstanceAs (Decidable (_ /\ _ /\ _))
def tailI (n:Ino):List Int:=
 if n.kind=1 then n.size::wordsE n.map
 else if n.kind=2 then [0,n.root,n.parent]
 else if n.kind=3 then(n.target.size:Int)::layM n.target.data.toList
 else []
def wordsI (n:Ino):List Int:=(n.kind+256*n.links)::(tailI n++List.replicate (15-(tailI n).length) 0)
end Go.Ino
namespace Go.Proofs.YtogbblcnfcfflaaGreat
open Go Go.Am
def conPc:List AV->Option PR
 |[.msl 1 id off n,.int .i64 a,.int .i64 m]=>if 0<=a/\0<m/\a+m<=n/\n<=1000000 then some (.plain (.msl 1 id (off+a.toNat) m.toNat))else none
 |[.sl 1 n cs .ro,.int .i64 a,.int .i64 m]=>if 0<=a/\0<m/\a+m<=n/\n<=1000000/\n<=cs.length then some (.plain (.sl 1 m.toNat ((cs.take (a+m).toNat).drop a.toNat) .ro))else none
 |[.sl 1 n cs (.own _),.int .i64 a,.int .i64 m]=>if 0<=a/\0<m/\a+m<=n/\n<=1000000/\n<=cs.length then some (.plain (.sl 1 m.toNat ((cs.take (a+m).toNat).drop a.toNat) .ro))else none
 |_=>none
def conBlk:List AV->Option PR
 |[x,.int .i64 b]=>if 0<=b/\b<=100000 then conPc [x,.int .i64 (b*64),.int .i64 64] else none
 |_=>none
end Go.Proofs.YtogbblcnfcfflaaGreat
