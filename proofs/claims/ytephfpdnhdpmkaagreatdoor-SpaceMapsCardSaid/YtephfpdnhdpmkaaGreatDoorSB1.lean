/- WHAT THE KERNEL RUNS OF THE THIRTY NAMES: sums. No condition. -/
import Derived.Test.YtephfpdnhdpmkaaGreatDoorSB0
set_option linter.all false
namespace Go.Proofs.YtephfpdnhdpmkaaGreatDoor
open Go Go.Am Go.Spc
set_option maxRecDepth 100000
set_option maxHeartbeats 4000000
theorem JB:(cbL tab).pc 168 [aV,.sl 1 1 [.int .u8 ((97+0:Nat):Int)] .ro]=some (.plain (.int .u64 (bD 0))):=af noF 300 (by kernel_rfl)
theorem Hz:(cbL tab).pc 168 [aV,.sl 1 1 [.int .u8 ((97+1:Nat):Int)] .ro]=some (.plain (.int .u64 (bD 1))):=af noF 300 (by kernel_rfl)
theorem I9:(cbL tab).pc 168 [aV,.sl 1 1 [.int .u8 ((97+2:Nat):Int)] .ro]=some (.plain (.int .u64 (bD 2))):=af noF 300 (by kernel_rfl)
theorem Jb:(cbL tab).pc 168 [aV,.sl 1 1 [.int .u8 ((97+3:Nat):Int)] .ro]=some (.plain (.int .u64 (bD 3))):=af noF 300 (by kernel_rfl)
theorem I2:(cbL tab).pc 168 [aV,.sl 1 1 [.int .u8 ((97+4:Nat):Int)] .ro]=some (.plain (.int .u64 (bD 4))):=af noF 300 (by kernel_rfl)
theorem JT:(cbL tab).pc 168 [aV,.sl 1 1 [.int .u8 ((97+5:Nat):Int)] .ro]=some (.plain (.int .u64 (bD 5))):=af noF 300 (by kernel_rfl)
theorem HD:(cbL tab).pc 168 [aV,.sl 1 1 [.int .u8 ((97+6:Nat):Int)] .ro]=some (.plain (.int .u64 (bD 6))):=af noF 300 (by kernel_rfl)
theorem Is:(cbL tab).pc 168 [aV,.sl 1 1 [.int .u8 ((97+7:Nat):Int)] .ro]=some (.plain (.int .u64 (bD 7))):=af noF 300 (by kernel_rfl)
theorem Ii:(cbL tab).pc 168 [aV,.sl 1 1 [.int .u8 ((97+8:Nat):Int)] .ro]=some (.plain (.int .u64 (bD 8))):=af noF 300 (by kernel_rfl)
theorem Ik:(cbL tab).pc 168 [aV,.sl 1 1 [.int .u8 ((97+9:Nat):Int)] .ro]=some (.plain (.int .u64 (bD 9))):=af noF 300 (by kernel_rfl)
theorem FE:(cbL tab).pc 168 [aV,.sl 1 1 [.int .u8 ((97+10:Nat):Int)] .ro]=some (.plain (.int .u64 (bD 10))):=af noF 300 (by kernel_rfl)
theorem F3:(cbL tab).pc 168 [aV,.sl 1 1 [.int .u8 ((97+11:Nat):Int)] .ro]=some (.plain (.int .u64 (bD 11))):=af noF 300 (by kernel_rfl)
theorem Du:(cbL tab).pc 168 [aV,.sl 1 1 [.int .u8 ((97+12:Nat):Int)] .ro]=some (.plain (.int .u64 (bD 12))):=af noF 300 (by kernel_rfl)
theorem C6:(cbL tab).pc 168 [aV,.sl 1 1 [.int .u8 ((97+13:Nat):Int)] .ro]=some (.plain (.int .u64 (bD 13))):=af noF 300 (by kernel_rfl)
theorem Fs:(cbL tab).pc 168 [aV,.sl 1 1 [.int .u8 ((97+14:Nat):Int)] .ro]=some (.plain (.int .u64 (bD 14))):=af noF 300 (by kernel_rfl)
theorem EU:(cbL tab).pc 168 [aV,.sl 1 1 [.int .u8 ((97+15:Nat):Int)] .ro]=some (.plain (.int .u64 (bD 15))):=af noF 300 (by kernel_rfl)
theorem Dy:(cbL tab).pc 168 [aV,.sl 1 1 [.int .u8 ((97+16:Nat):Int)] .ro]=some (.plain (.int .u64 (bD 16))):=af noF 300 (by kernel_rfl)
theorem Da:(cbL tab).pc 168 [aV,.sl 1 1 [.int .u8 ((97+17:Nat):Int)] .ro]=some (.plain (.int .u64 (bD 17))):=af noF 300 (by kernel_rfl)
theorem FM:(cbL tab).pc 168 [aV,.sl 1 1 [.int .u8 ((97+18:Nat):Int)] .ro]=some (.plain (.int .u64 (bD 18))):=af noF 300 (by kernel_rfl)
theorem Gt:(cbL tab).pc 168 [aV,.sl 1 1 [.int .u8 ((97+19:Nat):Int)] .ro]=some (.plain (.int .u64 (bD 19))):=af noF 300 (by kernel_rfl)
theorem EF:(cbL tab).pc 168 [aV,.sl 1 1 [.int .u8 ((97+20:Nat):Int)] .ro]=some (.plain (.int .u64 (bD 20))):=af noF 300 (by kernel_rfl)
theorem DR:(cbL tab).pc 168 [aV,.sl 1 1 [.int .u8 ((97+21:Nat):Int)] .ro]=some (.plain (.int .u64 (bD 21))):=af noF 300 (by kernel_rfl)
theorem Gu:(cbL tab).pc 168 [aV,.sl 1 1 [.int .u8 ((97+22:Nat):Int)] .ro]=some (.plain (.int .u64 (bD 22))):=af noF 300 (by kernel_rfl)
theorem Dz:(cbL tab).pc 168 [aV,.sl 1 1 [.int .u8 ((97+23:Nat):Int)] .ro]=some (.plain (.int .u64 (bD 23))):=af noF 300 (by kernel_rfl)
theorem Gb:(cbL tab).pc 168 [aV,.sl 1 1 [.int .u8 ((97+24:Nat):Int)] .ro]=some (.plain (.int .u64 (bD 24))):=af noF 300 (by kernel_rfl)
theorem Gk:(cbL tab).pc 168 [aV,.sl 1 1 [.int .u8 ((97+25:Nat):Int)] .ro]=some (.plain (.int .u64 (bD 25))):=af noF 300 (by kernel_rfl)
theorem GV:(cbL tab).pc 168 [aV,.sl 1 1 [.int .u8 ((97+26:Nat):Int)] .ro]=some (.plain (.int .u64 (bD 26))):=af noF 300 (by kernel_rfl)
theorem EY:(cbL tab).pc 168 [aV,.sl 1 1 [.int .u8 ((97+27:Nat):Int)] .ro]=some (.plain (.int .u64 (bD 27))):=af noF 300 (by kernel_rfl)
theorem Dq:(cbL tab).pc 168 [aV,.sl 1 1 [.int .u8 ((97+28:Nat):Int)] .ro]=some (.plain (.int .u64 (bD 28))):=af noF 300 (by kernel_rfl)
theorem Gq:(cbL tab).pc 168 [aV,.sl 1 1 [.int .u8 ((97+29:Nat):Int)] .ro]=some (.plain (.int .u64 (bD 29))):=af noF 300 (by kernel_rfl)
theorem K5:∀i:Nat,i<30->(cbL tab).pc 168 [aV,.sl 1 1 [.int .u8 ((97+i:Nat):Int)] .ro]=some (.plain (.int .u64 (bD i)))
 |0,_=>JB
 |1,_=>Hz
 |2,_=>I9
 |3,_=>Jb
 |4,_=>I2
 |5,_=>JT
 |6,_=>HD
 |7,_=>Is
 |8,_=>Ii
 |9,_=>Ik
 |10,_=>FE
 |11,_=>F3
 |12,_=>Du
 |13,_=>C6
 |14,_=>Fs
 |15,_=>EU
 |16,_=>Dy
 |17,_=>Da
 |18,_=>FM
 |19,_=>Gt
 |20,_=>EF
 |21,_=>DR
 |22,_=>Gu
 |23,_=>Dz
 |24,_=>Gb
 |25,_=>Gk
 |26,_=>GV
 |27,_=>EY
 |28,_=>Dq
 |29,_=>Gq
 |n+30,h=>absurd h (by omega)
end Go.Proofs.YtephfpdnhdpmkaaGreatDoor
