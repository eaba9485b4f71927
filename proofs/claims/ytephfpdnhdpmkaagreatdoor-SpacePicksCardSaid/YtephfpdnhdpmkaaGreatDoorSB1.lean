/- WHAT THE KERNEL RUNS OF THE THIRTY NAMES: sums. No condition. -/
import Derived.Test.YtephfpdnhdpmkaaGreatDoorSB0
set_option linter.all false
namespace Go.Proofs.YtephfpdnhdpmkaaGreatDoor
open Go Go.Am Go.Spc
set_option maxRecDepth 100000
set_option maxHeartbeats 4000000
theorem JI:(cbL tab).pc 168 [aW,.sl 1 1 [.int .u8 ((97+0:Nat):Int)] .ro]=some (.plain (.int .u64 (bF 0))):=af noF 300 (by kernel_rfl)
theorem JC:(cbL tab).pc 168 [aW,.sl 1 1 [.int .u8 ((97+1:Nat):Int)] .ro]=some (.plain (.int .u64 (bF 1))):=af noF 300 (by kernel_rfl)
theorem JL:(cbL tab).pc 168 [aW,.sl 1 1 [.int .u8 ((97+2:Nat):Int)] .ro]=some (.plain (.int .u64 (bF 2))):=af noF 300 (by kernel_rfl)
theorem IB:(cbL tab).pc 168 [aW,.sl 1 1 [.int .u8 ((97+3:Nat):Int)] .ro]=some (.plain (.int .u64 (bF 3))):=af noF 300 (by kernel_rfl)
theorem Ke:(cbL tab).pc 168 [aW,.sl 1 1 [.int .u8 ((97+4:Nat):Int)] .ro]=some (.plain (.int .u64 (bF 4))):=af noF 300 (by kernel_rfl)
theorem J8:(cbL tab).pc 168 [aW,.sl 1 1 [.int .u8 ((97+5:Nat):Int)] .ro]=some (.plain (.int .u64 (bF 5))):=af noF 300 (by kernel_rfl)
theorem JF:(cbL tab).pc 168 [aW,.sl 1 1 [.int .u8 ((97+6:Nat):Int)] .ro]=some (.plain (.int .u64 (bF 6))):=af noF 300 (by kernel_rfl)
theorem Ka:(cbL tab).pc 168 [aW,.sl 1 1 [.int .u8 ((97+7:Nat):Int)] .ro]=some (.plain (.int .u64 (bF 7))):=af noF 300 (by kernel_rfl)
theorem KB:(cbL tab).pc 168 [aW,.sl 1 1 [.int .u8 ((97+8:Nat):Int)] .ro]=some (.plain (.int .u64 (bF 8))):=af noF 300 (by kernel_rfl)
theorem KM:(cbL tab).pc 168 [aW,.sl 1 1 [.int .u8 ((97+9:Nat):Int)] .ro]=some (.plain (.int .u64 (bF 9))):=af noF 300 (by kernel_rfl)
theorem Hg:(cbL tab).pc 168 [aW,.sl 1 1 [.int .u8 ((97+10:Nat):Int)] .ro]=some (.plain (.int .u64 (bF 10))):=af noF 300 (by kernel_rfl)
theorem GY:(cbL tab).pc 168 [aW,.sl 1 1 [.int .u8 ((97+11:Nat):Int)] .ro]=some (.plain (.int .u64 (bF 11))):=af noF 300 (by kernel_rfl)
theorem Fo:(cbL tab).pc 168 [aW,.sl 1 1 [.int .u8 ((97+12:Nat):Int)] .ro]=some (.plain (.int .u64 (bF 12))):=af noF 300 (by kernel_rfl)
theorem Fu:(cbL tab).pc 168 [aW,.sl 1 1 [.int .u8 ((97+13:Nat):Int)] .ro]=some (.plain (.int .u64 (bF 13))):=af noF 300 (by kernel_rfl)
theorem G5:(cbL tab).pc 168 [aW,.sl 1 1 [.int .u8 ((97+14:Nat):Int)] .ro]=some (.plain (.int .u64 (bF 14))):=af noF 300 (by kernel_rfl)
theorem HW:(cbL tab).pc 168 [aW,.sl 1 1 [.int .u8 ((97+15:Nat):Int)] .ro]=some (.plain (.int .u64 (bF 15))):=af noF 300 (by kernel_rfl)
theorem Gx:(cbL tab).pc 168 [aW,.sl 1 1 [.int .u8 ((97+16:Nat):Int)] .ro]=some (.plain (.int .u64 (bF 16))):=af noF 300 (by kernel_rfl)
theorem D6:(cbL tab).pc 168 [aW,.sl 1 1 [.int .u8 ((97+17:Nat):Int)] .ro]=some (.plain (.int .u64 (bF 17))):=af noF 300 (by kernel_rfl)
theorem Fv:(cbL tab).pc 168 [aW,.sl 1 1 [.int .u8 ((97+18:Nat):Int)] .ro]=some (.plain (.int .u64 (bF 18))):=af noF 300 (by kernel_rfl)
theorem HK:(cbL tab).pc 168 [aW,.sl 1 1 [.int .u8 ((97+19:Nat):Int)] .ro]=some (.plain (.int .u64 (bF 19))):=af noF 300 (by kernel_rfl)
theorem HQ:(cbL tab).pc 168 [aW,.sl 1 1 [.int .u8 ((97+20:Nat):Int)] .ro]=some (.plain (.int .u64 (bF 20))):=af noF 300 (by kernel_rfl)
theorem GM:(cbL tab).pc 168 [aW,.sl 1 1 [.int .u8 ((97+21:Nat):Int)] .ro]=some (.plain (.int .u64 (bF 21))):=af noF 300 (by kernel_rfl)
theorem Eu:(cbL tab).pc 168 [aW,.sl 1 1 [.int .u8 ((97+22:Nat):Int)] .ro]=some (.plain (.int .u64 (bF 22))):=af noF 300 (by kernel_rfl)
theorem EP:(cbL tab).pc 168 [aW,.sl 1 1 [.int .u8 ((97+23:Nat):Int)] .ro]=some (.plain (.int .u64 (bF 23))):=af noF 300 (by kernel_rfl)
theorem EW:(cbL tab).pc 168 [aW,.sl 1 1 [.int .u8 ((97+24:Nat):Int)] .ro]=some (.plain (.int .u64 (bF 24))):=af noF 300 (by kernel_rfl)
theorem GZ:(cbL tab).pc 168 [aW,.sl 1 1 [.int .u8 ((97+25:Nat):Int)] .ro]=some (.plain (.int .u64 (bF 25))):=af noF 300 (by kernel_rfl)
theorem EN:(cbL tab).pc 168 [aW,.sl 1 1 [.int .u8 ((97+26:Nat):Int)] .ro]=some (.plain (.int .u64 (bF 26))):=af noF 300 (by kernel_rfl)
theorem GX:(cbL tab).pc 168 [aW,.sl 1 1 [.int .u8 ((97+27:Nat):Int)] .ro]=some (.plain (.int .u64 (bF 27))):=af noF 300 (by kernel_rfl)
theorem Ed:(cbL tab).pc 168 [aW,.sl 1 1 [.int .u8 ((97+28:Nat):Int)] .ro]=some (.plain (.int .u64 (bF 28))):=af noF 300 (by kernel_rfl)
theorem Hf:(cbL tab).pc 168 [aW,.sl 1 1 [.int .u8 ((97+29:Nat):Int)] .ro]=some (.plain (.int .u64 (bF 29))):=af noF 300 (by kernel_rfl)
theorem M4:∀i:Nat,i<30->(cbL tab).pc 168 [aW,.sl 1 1 [.int .u8 ((97+i:Nat):Int)] .ro]=some (.plain (.int .u64 (bF i)))
 |0,_=>JI
 |1,_=>JC
 |2,_=>JL
 |3,_=>IB
 |4,_=>Ke
 |5,_=>J8
 |6,_=>JF
 |7,_=>Ka
 |8,_=>KB
 |9,_=>KM
 |10,_=>Hg
 |11,_=>GY
 |12,_=>Fo
 |13,_=>Fu
 |14,_=>G5
 |15,_=>HW
 |16,_=>Gx
 |17,_=>D6
 |18,_=>Fv
 |19,_=>HK
 |20,_=>HQ
 |21,_=>GM
 |22,_=>Eu
 |23,_=>EP
 |24,_=>EW
 |25,_=>GZ
 |26,_=>EN
 |27,_=>GX
 |28,_=>Ed
 |29,_=>Hf
 |n+30,h=>absurd h (by omega)
end Go.Proofs.YtephfpdnhdpmkaaGreatDoor
