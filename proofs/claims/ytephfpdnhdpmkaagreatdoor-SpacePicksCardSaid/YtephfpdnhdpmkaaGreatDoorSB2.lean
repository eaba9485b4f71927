/- WHAT THE KERNEL RUNS OF THE THIRTY NAMES: sums. No condition. -/
import Derived.Test.YtephfpdnhdpmkaaGreatDoorSB0
set_option linter.all false
namespace Go.Proofs.YtephfpdnhdpmkaaGreatDoor
open Go Go.Am Go.Spc
set_option maxRecDepth 100000
set_option maxHeartbeats 4000000
theorem GB:(cbL tab).pc 163 [aW,.sl 1 1 [.int .u8 ((97+0:Nat):Int)] .ro]=some (.plain (.int .u64 (bF 0))):=af noF 300 (by kernel_rfl)
theorem FN:(cbL tab).pc 163 [aW,.sl 1 1 [.int .u8 ((97+1:Nat):Int)] .ro]=some (.plain (.int .u64 (bF 1))):=af noF 300 (by kernel_rfl)
theorem H5:(cbL tab).pc 163 [aW,.sl 1 1 [.int .u8 ((97+2:Nat):Int)] .ro]=some (.plain (.int .u64 (bF 2))):=af noF 300 (by kernel_rfl)
theorem Ij:(cbL tab).pc 163 [aW,.sl 1 1 [.int .u8 ((97+3:Nat):Int)] .ro]=some (.plain (.int .u64 (bF 3))):=af noF 300 (by kernel_rfl)
theorem EJ:(cbL tab).pc 163 [aW,.sl 1 1 [.int .u8 ((97+4:Nat):Int)] .ro]=some (.plain (.int .u64 (bF 4))):=af noF 300 (by kernel_rfl)
theorem HT:(cbL tab).pc 163 [aW,.sl 1 1 [.int .u8 ((97+5:Nat):Int)] .ro]=some (.plain (.int .u64 (bF 5))):=af noF 300 (by kernel_rfl)
theorem FF:(cbL tab).pc 163 [aW,.sl 1 1 [.int .u8 ((97+6:Nat):Int)] .ro]=some (.plain (.int .u64 (bF 6))):=af noF 300 (by kernel_rfl)
theorem Gq:(cbL tab).pc 163 [aW,.sl 1 1 [.int .u8 ((97+7:Nat):Int)] .ro]=some (.plain (.int .u64 (bF 7))):=af noF 300 (by kernel_rfl)
theorem HR:(cbL tab).pc 163 [aW,.sl 1 1 [.int .u8 ((97+8:Nat):Int)] .ro]=some (.plain (.int .u64 (bF 8))):=af noF 300 (by kernel_rfl)
theorem He:(cbL tab).pc 163 [aW,.sl 1 1 [.int .u8 ((97+9:Nat):Int)] .ro]=some (.plain (.int .u64 (bF 9))):=af noF 300 (by kernel_rfl)
theorem C1:(cbL tab).pc 163 [aW,.sl 1 1 [.int .u8 ((97+10:Nat):Int)] .ro]=some (.plain (.int .u64 (bF 10))):=af noF 300 (by kernel_rfl)
theorem Dd:(cbL tab).pc 163 [aW,.sl 1 1 [.int .u8 ((97+11:Nat):Int)] .ro]=some (.plain (.int .u64 (bF 11))):=af noF 300 (by kernel_rfl)
theorem C0:(cbL tab).pc 163 [aW,.sl 1 1 [.int .u8 ((97+12:Nat):Int)] .ro]=some (.plain (.int .u64 (bF 12))):=af noF 300 (by kernel_rfl)
theorem CM:(cbL tab).pc 163 [aW,.sl 1 1 [.int .u8 ((97+13:Nat):Int)] .ro]=some (.plain (.int .u64 (bF 13))):=af noF 300 (by kernel_rfl)
theorem CZ:(cbL tab).pc 163 [aW,.sl 1 1 [.int .u8 ((97+14:Nat):Int)] .ro]=some (.plain (.int .u64 (bF 14))):=af noF 300 (by kernel_rfl)
theorem Dg:(cbL tab).pc 163 [aW,.sl 1 1 [.int .u8 ((97+15:Nat):Int)] .ro]=some (.plain (.int .u64 (bF 15))):=af noF 300 (by kernel_rfl)
theorem B7:(cbL tab).pc 163 [aW,.sl 1 1 [.int .u8 ((97+16:Nat):Int)] .ro]=some (.plain (.int .u64 (bF 16))):=af noF 300 (by kernel_rfl)
theorem Cf:(cbL tab).pc 163 [aW,.sl 1 1 [.int .u8 ((97+17:Nat):Int)] .ro]=some (.plain (.int .u64 (bF 17))):=af noF 300 (by kernel_rfl)
theorem CO:(cbL tab).pc 163 [aW,.sl 1 1 [.int .u8 ((97+18:Nat):Int)] .ro]=some (.plain (.int .u64 (bF 18))):=af noF 300 (by kernel_rfl)
theorem Cs:(cbL tab).pc 163 [aW,.sl 1 1 [.int .u8 ((97+19:Nat):Int)] .ro]=some (.plain (.int .u64 (bF 19))):=af noF 300 (by kernel_rfl)
theorem Cj:(cbL tab).pc 163 [aW,.sl 1 1 [.int .u8 ((97+20:Nat):Int)] .ro]=some (.plain (.int .u64 (bF 20))):=af noF 300 (by kernel_rfl)
theorem CS:(cbL tab).pc 163 [aW,.sl 1 1 [.int .u8 ((97+21:Nat):Int)] .ro]=some (.plain (.int .u64 (bF 21))):=af noF 300 (by kernel_rfl)
theorem CG:(cbL tab).pc 163 [aW,.sl 1 1 [.int .u8 ((97+22:Nat):Int)] .ro]=some (.plain (.int .u64 (bF 22))):=af noF 300 (by kernel_rfl)
theorem Dl:(cbL tab).pc 163 [aW,.sl 1 1 [.int .u8 ((97+23:Nat):Int)] .ro]=some (.plain (.int .u64 (bF 23))):=af noF 300 (by kernel_rfl)
theorem C2:(cbL tab).pc 163 [aW,.sl 1 1 [.int .u8 ((97+24:Nat):Int)] .ro]=some (.plain (.int .u64 (bF 24))):=af noF 300 (by kernel_rfl)
theorem C3:(cbL tab).pc 163 [aW,.sl 1 1 [.int .u8 ((97+25:Nat):Int)] .ro]=some (.plain (.int .u64 (bF 25))):=af noF 300 (by kernel_rfl)
theorem B8:(cbL tab).pc 163 [aW,.sl 1 1 [.int .u8 ((97+26:Nat):Int)] .ro]=some (.plain (.int .u64 (bF 26))):=af noF 300 (by kernel_rfl)
theorem B5:(cbL tab).pc 163 [aW,.sl 1 1 [.int .u8 ((97+27:Nat):Int)] .ro]=some (.plain (.int .u64 (bF 27))):=af noF 300 (by kernel_rfl)
theorem Cu:(cbL tab).pc 163 [aW,.sl 1 1 [.int .u8 ((97+28:Nat):Int)] .ro]=some (.plain (.int .u64 (bF 28))):=af noF 300 (by kernel_rfl)
theorem BV:(cbL tab).pc 163 [aW,.sl 1 1 [.int .u8 ((97+29:Nat):Int)] .ro]=some (.plain (.int .u64 (bF 29))):=af noF 300 (by kernel_rfl)
theorem JH:∀i:Nat,i<30->(cbL tab).pc 163 [aW,.sl 1 1 [.int .u8 ((97+i:Nat):Int)] .ro]=some (.plain (.int .u64 (bF i)))
 |0,_=>GB
 |1,_=>FN
 |2,_=>H5
 |3,_=>Ij
 |4,_=>EJ
 |5,_=>HT
 |6,_=>FF
 |7,_=>Gq
 |8,_=>HR
 |9,_=>He
 |10,_=>C1
 |11,_=>Dd
 |12,_=>C0
 |13,_=>CM
 |14,_=>CZ
 |15,_=>Dg
 |16,_=>B7
 |17,_=>Cf
 |18,_=>CO
 |19,_=>Cs
 |20,_=>Cj
 |21,_=>CS
 |22,_=>CG
 |23,_=>Dl
 |24,_=>C2
 |25,_=>C3
 |26,_=>B8
 |27,_=>B5
 |28,_=>Cu
 |29,_=>BV
 |n+30,h=>absurd h (by omega)
end Go.Proofs.YtephfpdnhdpmkaaGreatDoor
