/- WHAT THE KERNEL RUNS OF THE THIRTY NAMES: sums. No condition. -/
import Derived.Test.YtephfpdnhdpmkaaGreatDoorSB0
set_option linter.all false
namespace Go.Proofs.YtephfpdnhdpmkaaGreatDoor
open Go Go.Am Go.Spc
set_option maxRecDepth 100000
set_option maxHeartbeats 4000000
theorem G7:(cbL tab).pc 163 [aV,.sl 1 1 [.int .u8 ((97+0:Nat):Int)] .ro]=some (.plain (.int .u64 (bC 0))):=af noF 300 (by kernel_rfl)
theorem F4:(cbL tab).pc 163 [aV,.sl 1 1 [.int .u8 ((97+1:Nat):Int)] .ro]=some (.plain (.int .u64 (bC 1))):=af noF 300 (by kernel_rfl)
theorem DF:(cbL tab).pc 163 [aV,.sl 1 1 [.int .u8 ((97+2:Nat):Int)] .ro]=some (.plain (.int .u64 (bC 2))):=af noF 300 (by kernel_rfl)
theorem Ek:(cbL tab).pc 163 [aV,.sl 1 1 [.int .u8 ((97+3:Nat):Int)] .ro]=some (.plain (.int .u64 (bC 3))):=af noF 300 (by kernel_rfl)
theorem FM:(cbL tab).pc 163 [aV,.sl 1 1 [.int .u8 ((97+4:Nat):Int)] .ro]=some (.plain (.int .u64 (bC 4))):=af noF 300 (by kernel_rfl)
theorem Fa:(cbL tab).pc 163 [aV,.sl 1 1 [.int .u8 ((97+5:Nat):Int)] .ro]=some (.plain (.int .u64 (bC 5))):=af noF 300 (by kernel_rfl)
theorem Hj:(cbL tab).pc 163 [aV,.sl 1 1 [.int .u8 ((97+6:Nat):Int)] .ro]=some (.plain (.int .u64 (bC 6))):=af noF 300 (by kernel_rfl)
theorem FT:(cbL tab).pc 163 [aV,.sl 1 1 [.int .u8 ((97+7:Nat):Int)] .ro]=some (.plain (.int .u64 (bC 7))):=af noF 300 (by kernel_rfl)
theorem Dv:(cbL tab).pc 163 [aV,.sl 1 1 [.int .u8 ((97+8:Nat):Int)] .ro]=some (.plain (.int .u64 (bC 8))):=af noF 300 (by kernel_rfl)
theorem Ds:(cbL tab).pc 163 [aV,.sl 1 1 [.int .u8 ((97+9:Nat):Int)] .ro]=some (.plain (.int .u64 (bC 9))):=af noF 300 (by kernel_rfl)
theorem BY:(cbL tab).pc 163 [aV,.sl 1 1 [.int .u8 ((97+10:Nat):Int)] .ro]=some (.plain (.int .u64 (bC 10))):=af noF 300 (by kernel_rfl)
theorem C4:(cbL tab).pc 163 [aV,.sl 1 1 [.int .u8 ((97+11:Nat):Int)] .ro]=some (.plain (.int .u64 (bC 11))):=af noF 300 (by kernel_rfl)
theorem Dh:(cbL tab).pc 163 [aV,.sl 1 1 [.int .u8 ((97+12:Nat):Int)] .ro]=some (.plain (.int .u64 (bC 12))):=af noF 300 (by kernel_rfl)
theorem Df:(cbL tab).pc 163 [aV,.sl 1 1 [.int .u8 ((97+13:Nat):Int)] .ro]=some (.plain (.int .u64 (bC 13))):=af noF 300 (by kernel_rfl)
theorem Cd:(cbL tab).pc 163 [aV,.sl 1 1 [.int .u8 ((97+14:Nat):Int)] .ro]=some (.plain (.int .u64 (bC 14))):=af noF 300 (by kernel_rfl)
theorem CS:(cbL tab).pc 163 [aV,.sl 1 1 [.int .u8 ((97+15:Nat):Int)] .ro]=some (.plain (.int .u64 (bC 15))):=af noF 300 (by kernel_rfl)
theorem BX:(cbL tab).pc 163 [aV,.sl 1 1 [.int .u8 ((97+16:Nat):Int)] .ro]=some (.plain (.int .u64 (bC 16))):=af noF 300 (by kernel_rfl)
theorem CC:(cbL tab).pc 163 [aV,.sl 1 1 [.int .u8 ((97+17:Nat):Int)] .ro]=some (.plain (.int .u64 (bC 17))):=af noF 300 (by kernel_rfl)
theorem BT:(cbL tab).pc 163 [aV,.sl 1 1 [.int .u8 ((97+18:Nat):Int)] .ro]=some (.plain (.int .u64 (bC 18))):=af noF 300 (by kernel_rfl)
theorem C8:(cbL tab).pc 163 [aV,.sl 1 1 [.int .u8 ((97+19:Nat):Int)] .ro]=some (.plain (.int .u64 (bC 19))):=af noF 300 (by kernel_rfl)
theorem C0:(cbL tab).pc 163 [aV,.sl 1 1 [.int .u8 ((97+20:Nat):Int)] .ro]=some (.plain (.int .u64 (bC 20))):=af noF 300 (by kernel_rfl)
theorem Ca:(cbL tab).pc 163 [aV,.sl 1 1 [.int .u8 ((97+21:Nat):Int)] .ro]=some (.plain (.int .u64 (bC 21))):=af noF 300 (by kernel_rfl)
theorem Ce:(cbL tab).pc 163 [aV,.sl 1 1 [.int .u8 ((97+22:Nat):Int)] .ro]=some (.plain (.int .u64 (bC 22))):=af noF 300 (by kernel_rfl)
theorem BV:(cbL tab).pc 163 [aV,.sl 1 1 [.int .u8 ((97+23:Nat):Int)] .ro]=some (.plain (.int .u64 (bC 23))):=af noF 300 (by kernel_rfl)
theorem Dp:(cbL tab).pc 163 [aV,.sl 1 1 [.int .u8 ((97+24:Nat):Int)] .ro]=some (.plain (.int .u64 (bC 24))):=af noF 300 (by kernel_rfl)
theorem BW:(cbL tab).pc 163 [aV,.sl 1 1 [.int .u8 ((97+25:Nat):Int)] .ro]=some (.plain (.int .u64 (bC 25))):=af noF 300 (by kernel_rfl)
theorem CL:(cbL tab).pc 163 [aV,.sl 1 1 [.int .u8 ((97+26:Nat):Int)] .ro]=some (.plain (.int .u64 (bC 26))):=af noF 300 (by kernel_rfl)
theorem CG:(cbL tab).pc 163 [aV,.sl 1 1 [.int .u8 ((97+27:Nat):Int)] .ro]=some (.plain (.int .u64 (bC 27))):=af noF 300 (by kernel_rfl)
theorem C1:(cbL tab).pc 163 [aV,.sl 1 1 [.int .u8 ((97+28:Nat):Int)] .ro]=some (.plain (.int .u64 (bC 28))):=af noF 300 (by kernel_rfl)
theorem CW:(cbL tab).pc 163 [aV,.sl 1 1 [.int .u8 ((97+29:Nat):Int)] .ro]=some (.plain (.int .u64 (bC 29))):=af noF 300 (by kernel_rfl)
theorem IJ:∀i:Nat,i<30->(cbL tab).pc 163 [aV,.sl 1 1 [.int .u8 ((97+i:Nat):Int)] .ro]=some (.plain (.int .u64 (bC i)))
 |0,_=>G7
 |1,_=>F4
 |2,_=>DF
 |3,_=>Ek
 |4,_=>FM
 |5,_=>Fa
 |6,_=>Hj
 |7,_=>FT
 |8,_=>Dv
 |9,_=>Ds
 |10,_=>BY
 |11,_=>C4
 |12,_=>Dh
 |13,_=>Df
 |14,_=>Cd
 |15,_=>CS
 |16,_=>BX
 |17,_=>CC
 |18,_=>BT
 |19,_=>C8
 |20,_=>C0
 |21,_=>Ca
 |22,_=>Ce
 |23,_=>BV
 |24,_=>Dp
 |25,_=>BW
 |26,_=>CL
 |27,_=>CG
 |28,_=>C1
 |29,_=>CW
 |n+30,h=>absurd h (by omega)
end Go.Proofs.YtephfpdnhdpmkaaGreatDoor
