/- WHAT THE KERNEL RUNS OF THE THIRTY NAMES: sums. No condition. -/
import Derived.Test.YtephfpdnhdpmkaaGreatDoorSB0
set_option linter.all false
namespace Go.Proofs.YtephfpdnhdpmkaaGreatDoor
open Go Go.Am Go.Spc
set_option maxRecDepth 100000
set_option maxHeartbeats 4000000
theorem KV:(cbL tab).pc 168 [aV,.sl 1 1 [.int .u8 ((97+0:Nat):Int)] .ro]=some (.plain (.int .u64 (bC 0))):=af noF 300 (by kernel_rfl)
theorem I2:(cbL tab).pc 168 [aV,.sl 1 1 [.int .u8 ((97+1:Nat):Int)] .ro]=some (.plain (.int .u64 (bC 1))):=af noF 300 (by kernel_rfl)
theorem KL:(cbL tab).pc 168 [aV,.sl 1 1 [.int .u8 ((97+2:Nat):Int)] .ro]=some (.plain (.int .u64 (bC 2))):=af noF 300 (by kernel_rfl)
theorem JG:(cbL tab).pc 168 [aV,.sl 1 1 [.int .u8 ((97+3:Nat):Int)] .ro]=some (.plain (.int .u64 (bC 3))):=af noF 300 (by kernel_rfl)
theorem JW:(cbL tab).pc 168 [aV,.sl 1 1 [.int .u8 ((97+4:Nat):Int)] .ro]=some (.plain (.int .u64 (bC 4))):=af noF 300 (by kernel_rfl)
theorem Jp:(cbL tab).pc 168 [aV,.sl 1 1 [.int .u8 ((97+5:Nat):Int)] .ro]=some (.plain (.int .u64 (bC 5))):=af noF 300 (by kernel_rfl)
theorem KH:(cbL tab).pc 168 [aV,.sl 1 1 [.int .u8 ((97+6:Nat):Int)] .ro]=some (.plain (.int .u64 (bC 6))):=af noF 300 (by kernel_rfl)
theorem Jq:(cbL tab).pc 168 [aV,.sl 1 1 [.int .u8 ((97+7:Nat):Int)] .ro]=some (.plain (.int .u64 (bC 7))):=af noF 300 (by kernel_rfl)
theorem KD:(cbL tab).pc 168 [aV,.sl 1 1 [.int .u8 ((97+8:Nat):Int)] .ro]=some (.plain (.int .u64 (bC 8))):=af noF 300 (by kernel_rfl)
theorem Ku:(cbL tab).pc 168 [aV,.sl 1 1 [.int .u8 ((97+9:Nat):Int)] .ro]=some (.plain (.int .u64 (bC 9))):=af noF 300 (by kernel_rfl)
theorem DZ:(cbL tab).pc 168 [aV,.sl 1 1 [.int .u8 ((97+10:Nat):Int)] .ro]=some (.plain (.int .u64 (bC 10))):=af noF 300 (by kernel_rfl)
theorem Fi:(cbL tab).pc 168 [aV,.sl 1 1 [.int .u8 ((97+11:Nat):Int)] .ro]=some (.plain (.int .u64 (bC 11))):=af noF 300 (by kernel_rfl)
theorem Eu:(cbL tab).pc 168 [aV,.sl 1 1 [.int .u8 ((97+12:Nat):Int)] .ro]=some (.plain (.int .u64 (bC 12))):=af noF 300 (by kernel_rfl)
theorem D4:(cbL tab).pc 168 [aV,.sl 1 1 [.int .u8 ((97+13:Nat):Int)] .ro]=some (.plain (.int .u64 (bC 13))):=af noF 300 (by kernel_rfl)
theorem HN:(cbL tab).pc 168 [aV,.sl 1 1 [.int .u8 ((97+14:Nat):Int)] .ro]=some (.plain (.int .u64 (bC 14))):=af noF 300 (by kernel_rfl)
theorem H9:(cbL tab).pc 168 [aV,.sl 1 1 [.int .u8 ((97+15:Nat):Int)] .ro]=some (.plain (.int .u64 (bC 15))):=af noF 300 (by kernel_rfl)
theorem Ib:(cbL tab).pc 168 [aV,.sl 1 1 [.int .u8 ((97+16:Nat):Int)] .ro]=some (.plain (.int .u64 (bC 16))):=af noF 300 (by kernel_rfl)
theorem EC:(cbL tab).pc 168 [aV,.sl 1 1 [.int .u8 ((97+17:Nat):Int)] .ro]=some (.plain (.int .u64 (bC 17))):=af noF 300 (by kernel_rfl)
theorem Ie:(cbL tab).pc 168 [aV,.sl 1 1 [.int .u8 ((97+18:Nat):Int)] .ro]=some (.plain (.int .u64 (bC 18))):=af noF 300 (by kernel_rfl)
theorem F3:(cbL tab).pc 168 [aV,.sl 1 1 [.int .u8 ((97+19:Nat):Int)] .ro]=some (.plain (.int .u64 (bC 19))):=af noF 300 (by kernel_rfl)
theorem DP:(cbL tab).pc 168 [aV,.sl 1 1 [.int .u8 ((97+20:Nat):Int)] .ro]=some (.plain (.int .u64 (bC 20))):=af noF 300 (by kernel_rfl)
theorem HF:(cbL tab).pc 168 [aV,.sl 1 1 [.int .u8 ((97+21:Nat):Int)] .ro]=some (.plain (.int .u64 (bC 21))):=af noF 300 (by kernel_rfl)
theorem Ew:(cbL tab).pc 168 [aV,.sl 1 1 [.int .u8 ((97+22:Nat):Int)] .ro]=some (.plain (.int .u64 (bC 22))):=af noF 300 (by kernel_rfl)
theorem EF:(cbL tab).pc 168 [aV,.sl 1 1 [.int .u8 ((97+23:Nat):Int)] .ro]=some (.plain (.int .u64 (bC 23))):=af noF 300 (by kernel_rfl)
theorem D1:(cbL tab).pc 168 [aV,.sl 1 1 [.int .u8 ((97+24:Nat):Int)] .ro]=some (.plain (.int .u64 (bC 24))):=af noF 300 (by kernel_rfl)
theorem Gg:(cbL tab).pc 168 [aV,.sl 1 1 [.int .u8 ((97+25:Nat):Int)] .ro]=some (.plain (.int .u64 (bC 25))):=af noF 300 (by kernel_rfl)
theorem Fo:(cbL tab).pc 168 [aV,.sl 1 1 [.int .u8 ((97+26:Nat):Int)] .ro]=some (.plain (.int .u64 (bC 26))):=af noF 300 (by kernel_rfl)
theorem Fg:(cbL tab).pc 168 [aV,.sl 1 1 [.int .u8 ((97+27:Nat):Int)] .ro]=some (.plain (.int .u64 (bC 27))):=af noF 300 (by kernel_rfl)
theorem D0:(cbL tab).pc 168 [aV,.sl 1 1 [.int .u8 ((97+28:Nat):Int)] .ro]=some (.plain (.int .u64 (bC 28))):=af noF 300 (by kernel_rfl)
theorem Ia:(cbL tab).pc 168 [aV,.sl 1 1 [.int .u8 ((97+29:Nat):Int)] .ro]=some (.plain (.int .u64 (bC 29))):=af noF 300 (by kernel_rfl)
theorem M1:∀i:Nat,i<30->(cbL tab).pc 168 [aV,.sl 1 1 [.int .u8 ((97+i:Nat):Int)] .ro]=some (.plain (.int .u64 (bC i)))
 |0,_=>KV
 |1,_=>I2
 |2,_=>KL
 |3,_=>JG
 |4,_=>JW
 |5,_=>Jp
 |6,_=>KH
 |7,_=>Jq
 |8,_=>KD
 |9,_=>Ku
 |10,_=>DZ
 |11,_=>Fi
 |12,_=>Eu
 |13,_=>D4
 |14,_=>HN
 |15,_=>H9
 |16,_=>Ib
 |17,_=>EC
 |18,_=>Ie
 |19,_=>F3
 |20,_=>DP
 |21,_=>HF
 |22,_=>Ew
 |23,_=>EF
 |24,_=>D1
 |25,_=>Gg
 |26,_=>Fo
 |27,_=>Fg
 |28,_=>D0
 |29,_=>Ia
 |n+30,h=>absurd h (by omega)
end Go.Proofs.YtephfpdnhdpmkaaGreatDoor
