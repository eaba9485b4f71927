/- WHAT THE KERNEL RUNS OF THE THIRTY NAMES: sums. No condition. -/
import Derived.Test.YtephfpdnhdpmkaaGreatDoorSB0
set_option linter.all false
namespace Go.Proofs.YtephfpdnhdpmkaaGreatDoor
open Go Go.Am Go.Spc
set_option maxRecDepth 100000
set_option maxHeartbeats 4000000
theorem Fw:(cbL tab).pc 163 [aV,.sl 1 1 [.int .u8 ((97+0:Nat):Int)] .ro]=some (.plain (.int .u64 (bD 0))):=af noF 300 (by kernel_rfl)
theorem FD:(cbL tab).pc 163 [aV,.sl 1 1 [.int .u8 ((97+1:Nat):Int)] .ro]=some (.plain (.int .u64 (bD 1))):=af noF 300 (by kernel_rfl)
theorem FA:(cbL tab).pc 163 [aV,.sl 1 1 [.int .u8 ((97+2:Nat):Int)] .ro]=some (.plain (.int .u64 (bD 2))):=af noF 300 (by kernel_rfl)
theorem EO:(cbL tab).pc 163 [aV,.sl 1 1 [.int .u8 ((97+3:Nat):Int)] .ro]=some (.plain (.int .u64 (bD 3))):=af noF 300 (by kernel_rfl)
theorem GG:(cbL tab).pc 163 [aV,.sl 1 1 [.int .u8 ((97+4:Nat):Int)] .ro]=some (.plain (.int .u64 (bD 4))):=af noF 300 (by kernel_rfl)
theorem Hs:(cbL tab).pc 163 [aV,.sl 1 1 [.int .u8 ((97+5:Nat):Int)] .ro]=some (.plain (.int .u64 (bD 5))):=af noF 300 (by kernel_rfl)
theorem Gm:(cbL tab).pc 163 [aV,.sl 1 1 [.int .u8 ((97+6:Nat):Int)] .ro]=some (.plain (.int .u64 (bD 6))):=af noF 300 (by kernel_rfl)
theorem Di:(cbL tab).pc 163 [aV,.sl 1 1 [.int .u8 ((97+7:Nat):Int)] .ro]=some (.plain (.int .u64 (bD 7))):=af noF 300 (by kernel_rfl)
theorem G0:(cbL tab).pc 163 [aV,.sl 1 1 [.int .u8 ((97+8:Nat):Int)] .ro]=some (.plain (.int .u64 (bD 8))):=af noF 300 (by kernel_rfl)
theorem EJ:(cbL tab).pc 163 [aV,.sl 1 1 [.int .u8 ((97+9:Nat):Int)] .ro]=some (.plain (.int .u64 (bD 9))):=af noF 300 (by kernel_rfl)
theorem Cu:(cbL tab).pc 163 [aV,.sl 1 1 [.int .u8 ((97+10:Nat):Int)] .ro]=some (.plain (.int .u64 (bD 10))):=af noF 300 (by kernel_rfl)
theorem B8:(cbL tab).pc 163 [aV,.sl 1 1 [.int .u8 ((97+11:Nat):Int)] .ro]=some (.plain (.int .u64 (bD 11))):=af noF 300 (by kernel_rfl)
theorem Bu:(cbL tab).pc 163 [aV,.sl 1 1 [.int .u8 ((97+12:Nat):Int)] .ro]=some (.plain (.int .u64 (bD 12))):=af noF 300 (by kernel_rfl)
theorem BK:(cbL tab).pc 163 [aV,.sl 1 1 [.int .u8 ((97+13:Nat):Int)] .ro]=some (.plain (.int .u64 (bD 13))):=af noF 300 (by kernel_rfl)
theorem CX:(cbL tab).pc 163 [aV,.sl 1 1 [.int .u8 ((97+14:Nat):Int)] .ro]=some (.plain (.int .u64 (bD 14))):=af noF 300 (by kernel_rfl)
theorem Cq:(cbL tab).pc 163 [aV,.sl 1 1 [.int .u8 ((97+15:Nat):Int)] .ro]=some (.plain (.int .u64 (bD 15))):=af noF 300 (by kernel_rfl)
theorem BD:(cbL tab).pc 163 [aV,.sl 1 1 [.int .u8 ((97+16:Nat):Int)] .ro]=some (.plain (.int .u64 (bD 16))):=af noF 300 (by kernel_rfl)
theorem BX:(cbL tab).pc 163 [aV,.sl 1 1 [.int .u8 ((97+17:Nat):Int)] .ro]=some (.plain (.int .u64 (bD 17))):=af noF 300 (by kernel_rfl)
theorem BT:(cbL tab).pc 163 [aV,.sl 1 1 [.int .u8 ((97+18:Nat):Int)] .ro]=some (.plain (.int .u64 (bD 18))):=af noF 300 (by kernel_rfl)
theorem BL:(cbL tab).pc 163 [aV,.sl 1 1 [.int .u8 ((97+19:Nat):Int)] .ro]=some (.plain (.int .u64 (bD 19))):=af noF 300 (by kernel_rfl)
theorem CF:(cbL tab).pc 163 [aV,.sl 1 1 [.int .u8 ((97+20:Nat):Int)] .ro]=some (.plain (.int .u64 (bD 20))):=af noF 300 (by kernel_rfl)
theorem CO:(cbL tab).pc 163 [aV,.sl 1 1 [.int .u8 ((97+21:Nat):Int)] .ro]=some (.plain (.int .u64 (bD 21))):=af noF 300 (by kernel_rfl)
theorem B6:(cbL tab).pc 163 [aV,.sl 1 1 [.int .u8 ((97+22:Nat):Int)] .ro]=some (.plain (.int .u64 (bD 22))):=af noF 300 (by kernel_rfl)
theorem Cv:(cbL tab).pc 163 [aV,.sl 1 1 [.int .u8 ((97+23:Nat):Int)] .ro]=some (.plain (.int .u64 (bD 23))):=af noF 300 (by kernel_rfl)
theorem Ca:(cbL tab).pc 163 [aV,.sl 1 1 [.int .u8 ((97+24:Nat):Int)] .ro]=some (.plain (.int .u64 (bD 24))):=af noF 300 (by kernel_rfl)
theorem Ck:(cbL tab).pc 163 [aV,.sl 1 1 [.int .u8 ((97+25:Nat):Int)] .ro]=some (.plain (.int .u64 (bD 25))):=af noF 300 (by kernel_rfl)
theorem Cw:(cbL tab).pc 163 [aV,.sl 1 1 [.int .u8 ((97+26:Nat):Int)] .ro]=some (.plain (.int .u64 (bD 26))):=af noF 300 (by kernel_rfl)
theorem BH:(cbL tab).pc 163 [aV,.sl 1 1 [.int .u8 ((97+27:Nat):Int)] .ro]=some (.plain (.int .u64 (bD 27))):=af noF 300 (by kernel_rfl)
theorem Cz:(cbL tab).pc 163 [aV,.sl 1 1 [.int .u8 ((97+28:Nat):Int)] .ro]=some (.plain (.int .u64 (bD 28))):=af noF 300 (by kernel_rfl)
theorem BY:(cbL tab).pc 163 [aV,.sl 1 1 [.int .u8 ((97+29:Nat):Int)] .ro]=some (.plain (.int .u64 (bD 29))):=af noF 300 (by kernel_rfl)
theorem IM:∀i:Nat,i<30->(cbL tab).pc 163 [aV,.sl 1 1 [.int .u8 ((97+i:Nat):Int)] .ro]=some (.plain (.int .u64 (bD i)))
 |0,_=>Fw
 |1,_=>FD
 |2,_=>FA
 |3,_=>EO
 |4,_=>GG
 |5,_=>Hs
 |6,_=>Gm
 |7,_=>Di
 |8,_=>G0
 |9,_=>EJ
 |10,_=>Cu
 |11,_=>B8
 |12,_=>Bu
 |13,_=>BK
 |14,_=>CX
 |15,_=>Cq
 |16,_=>BD
 |17,_=>BX
 |18,_=>BT
 |19,_=>BL
 |20,_=>CF
 |21,_=>CO
 |22,_=>B6
 |23,_=>Cv
 |24,_=>Ca
 |25,_=>Ck
 |26,_=>Cw
 |27,_=>BH
 |28,_=>Cz
 |29,_=>BY
 |n+30,h=>absurd h (by omega)
end Go.Proofs.YtephfpdnhdpmkaaGreatDoor
