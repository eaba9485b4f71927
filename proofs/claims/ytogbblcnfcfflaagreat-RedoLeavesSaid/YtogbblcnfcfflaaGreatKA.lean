/- CALLS THAT THE KERNEL RAN: what made is made of. No condition. -/
import Derived.Test.YtogbblcnfcfflaaGreatQ1
open Int (reduceEq)
open Nat (reduceEqDiff reduceAdd reduceMul reduceLT reduceLeDiff)
set_option linter.all false
namespace Go.Proofs.YtogbblcnfcfflaaGreat
open Go Go.Am Go.Rec Go.Ino
set_option maxRecDepth 100000
def npF:Nat->List Int->List (Int×Int)
 |_,[]=>[]
 |a,x::r=>(((a:Nat):Int),x)::npF (a+1) r
def nodeW (l:List Int):List Int:=[7522529147838689024,0,0,9223372036854775808,0,0,0,0]++l++List.replicate (56-l.length) 0
def dirW (r:Int):List Int:=[258,0,r,1]++List.replicate 12 0
def superW:List Int:=[3555397645633865032,64,8,64,8,1,2,7606718476054802314]++List.replicate 56 0
def dirV (r:Int):AV:= .agg [.int .i64 2,.int .i64 1,.int .i64 0,.sl 0 0 [] .z,.int .i64 r,.int .i64 1,.str ⟨#[]⟩]
def frV (b:Nat):AV:= .sl 1 (64-b) (encs i64A (freeF b (64-b))) .ro
def prs2:List Int:=[1000,61,1001,62]
def prs4:List Int:=[3,1,6,2,1000,61,1001,62]
def blkK (b:Nat):Fact:=⟨51,[frV b],.plain (.bool true)⟩
theorem blkK_ok (b:Nat) (hb:b<64) (h:blkM [] (freeF b (64-b))=true):(cbL tab).pc (blkK b).f (blkK b).args=some (blkK b).res:=by
 have:=blocks_px (freeF b (64-b)) [] 1 .ro (fun _=>rfl) rfl (by rw[freeF_len];omega) []
 rw[freeF_len,List.append_nil,h]at this
 have e:pcx (cbL tab) 51 [frV b] []=(cbL tab).pc 51 [frV b]:=by
   unfold pcx
   rw[if_neg (show¬(cbL tab).lent 51=true from by decide)]
 exact e.symm.trans this
theorem fB:Facts tab [blkK 28,blkK 29,blkK 30]:=
 .cons rfl (blkK_ok 28 (by decide) (by kernel_rfl)) (.cons rfl (blkK_ok 29 (by decide) (by kernel_rfl)) (.cons rfl (blkK_ok 30 (by decide) (by kernel_rfl)) (.nil _)))
def bldR (b:Nat) (l:List Int):PR:= .plain (.tup [.int .i64 ((b:Nat):Int),slvR 2 putA (npF (64*b) (nodeW l)),.int .i64 ((1:Nat):Int),.int .i64 0])
def words (l:List Int):AV:= .sl 1 l.length (encs u64A l) .ro
def r20:AV:= .agg ([.int .i64 2,.int .i64 4]++List.replicate 16 (.int .u64 0)++[.int .i64 2,.int .i64 1,.int .u64 9,.int .u64 3,.int .i64 1,.bool false])
def nodV (l:List Int):AV:= .agg [.int .i64 0,.int .i64 0,.int .u64 0,.int .u64 9223372036854775808,.int .i64 0,slvR 1 u64A l]
end Go.Proofs.YtogbblcnfcfflaaGreat
