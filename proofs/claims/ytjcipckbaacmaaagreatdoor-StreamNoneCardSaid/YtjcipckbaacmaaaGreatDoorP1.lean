/- TEXTS OF THE WALKS, put together: CG1. No condition but those stated. -/
import Derived.Test.YtjcipckbaacmaaaGreatDoorAmDef
open Int (reduceEq)
open Nat (reduceEqDiff reduceAdd reduceMul reduceLT reduceLeDiff)
set_option linter.all false
set_option maxHeartbeats 8000000
set_option maxRecDepth 1000000
namespace Go.Am
open Go
def rowsA:List AV->Option (List (List AV))
 |[]=>some []
 | .sl s n cs _::r=>if(n=0∨s=3)/\n*3<=cs.length then(rowsA r).map (cs.take (n*3):: ·)else none
 |_=>none
def concC:List AV->Option PR
 | [.sl 1 n cs _]=>match rowsA (cs.take n)with
   |some L=>if 0<n/\n<=cs.length/\n<=4294967296/\L.flatten.length<=4294967296 then some (.plain (if L.flatten=[] then .sl 0 0 [] .z else .sl 3 (L.flatten.length/3) L.flatten .ro))else none
   |none=>none
 |_=>none
end Go.Am
