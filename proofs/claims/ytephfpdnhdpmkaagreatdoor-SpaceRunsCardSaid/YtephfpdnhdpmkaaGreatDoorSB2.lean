/- WHAT THE KERNEL RUNS OF THE THIRTY NAMES: sums. No condition. -/
import Derived.Test.YtephfpdnhdpmkaaGreatDoorSB0
set_option linter.all false
namespace Go.Proofs.YtephfpdnhdpmkaaGreatDoor
open Go Go.Am Go.Spc
set_option maxRecDepth 100000
set_option maxHeartbeats 4000000
theorem rhsum_k0:(cbL tab).pc 163 [key56,.sl 1 1 [.int .u8 ((97+0:Nat):Int)] .ro]=some (.plain (.int .u64 (hsum 0))):=fact_run noF 300 (by kernel_rfl)
theorem rhsum_k1:(cbL tab).pc 163 [key56,.sl 1 1 [.int .u8 ((97+1:Nat):Int)] .ro]=some (.plain (.int .u64 (hsum 1))):=fact_run noF 300 (by kernel_rfl)
theorem rhsum_k2:(cbL tab).pc 163 [key56,.sl 1 1 [.int .u8 ((97+2:Nat):Int)] .ro]=some (.plain (.int .u64 (hsum 2))):=fact_run noF 300 (by kernel_rfl)
theorem rhsum_k3:(cbL tab).pc 163 [key56,.sl 1 1 [.int .u8 ((97+3:Nat):Int)] .ro]=some (.plain (.int .u64 (hsum 3))):=fact_run noF 300 (by kernel_rfl)
theorem rhsum_k4:(cbL tab).pc 163 [key56,.sl 1 1 [.int .u8 ((97+4:Nat):Int)] .ro]=some (.plain (.int .u64 (hsum 4))):=fact_run noF 300 (by kernel_rfl)
theorem rhsum_k5:(cbL tab).pc 163 [key56,.sl 1 1 [.int .u8 ((97+5:Nat):Int)] .ro]=some (.plain (.int .u64 (hsum 5))):=fact_run noF 300 (by kernel_rfl)
theorem rhsum_k6:(cbL tab).pc 163 [key56,.sl 1 1 [.int .u8 ((97+6:Nat):Int)] .ro]=some (.plain (.int .u64 (hsum 6))):=fact_run noF 300 (by kernel_rfl)
theorem rhsum_k7:(cbL tab).pc 163 [key56,.sl 1 1 [.int .u8 ((97+7:Nat):Int)] .ro]=some (.plain (.int .u64 (hsum 7))):=fact_run noF 300 (by kernel_rfl)
theorem rhsum_k8:(cbL tab).pc 163 [key56,.sl 1 1 [.int .u8 ((97+8:Nat):Int)] .ro]=some (.plain (.int .u64 (hsum 8))):=fact_run noF 300 (by kernel_rfl)
theorem rhsum_k9:(cbL tab).pc 163 [key56,.sl 1 1 [.int .u8 ((97+9:Nat):Int)] .ro]=some (.plain (.int .u64 (hsum 9))):=fact_run noF 300 (by kernel_rfl)
theorem rhsum_k10:(cbL tab).pc 163 [key56,.sl 1 1 [.int .u8 ((97+10:Nat):Int)] .ro]=some (.plain (.int .u64 (hsum 10))):=fact_run noF 300 (by kernel_rfl)
theorem rhsum_k11:(cbL tab).pc 163 [key56,.sl 1 1 [.int .u8 ((97+11:Nat):Int)] .ro]=some (.plain (.int .u64 (hsum 11))):=fact_run noF 300 (by kernel_rfl)
theorem rhsum_k12:(cbL tab).pc 163 [key56,.sl 1 1 [.int .u8 ((97+12:Nat):Int)] .ro]=some (.plain (.int .u64 (hsum 12))):=fact_run noF 300 (by kernel_rfl)
theorem rhsum_k13:(cbL tab).pc 163 [key56,.sl 1 1 [.int .u8 ((97+13:Nat):Int)] .ro]=some (.plain (.int .u64 (hsum 13))):=fact_run noF 300 (by kernel_rfl)
theorem rhsum_k14:(cbL tab).pc 163 [key56,.sl 1 1 [.int .u8 ((97+14:Nat):Int)] .ro]=some (.plain (.int .u64 (hsum 14))):=fact_run noF 300 (by kernel_rfl)
theorem rhsum_k15:(cbL tab).pc 163 [key56,.sl 1 1 [.int .u8 ((97+15:Nat):Int)] .ro]=some (.plain (.int .u64 (hsum 15))):=fact_run noF 300 (by kernel_rfl)
theorem rhsum_k16:(cbL tab).pc 163 [key56,.sl 1 1 [.int .u8 ((97+16:Nat):Int)] .ro]=some (.plain (.int .u64 (hsum 16))):=fact_run noF 300 (by kernel_rfl)
theorem rhsum_k17:(cbL tab).pc 163 [key56,.sl 1 1 [.int .u8 ((97+17:Nat):Int)] .ro]=some (.plain (.int .u64 (hsum 17))):=fact_run noF 300 (by kernel_rfl)
theorem rhsum_k18:(cbL tab).pc 163 [key56,.sl 1 1 [.int .u8 ((97+18:Nat):Int)] .ro]=some (.plain (.int .u64 (hsum 18))):=fact_run noF 300 (by kernel_rfl)
theorem rhsum_k19:(cbL tab).pc 163 [key56,.sl 1 1 [.int .u8 ((97+19:Nat):Int)] .ro]=some (.plain (.int .u64 (hsum 19))):=fact_run noF 300 (by kernel_rfl)
theorem rhsum_k20:(cbL tab).pc 163 [key56,.sl 1 1 [.int .u8 ((97+20:Nat):Int)] .ro]=some (.plain (.int .u64 (hsum 20))):=fact_run noF 300 (by kernel_rfl)
theorem rhsum_k21:(cbL tab).pc 163 [key56,.sl 1 1 [.int .u8 ((97+21:Nat):Int)] .ro]=some (.plain (.int .u64 (hsum 21))):=fact_run noF 300 (by kernel_rfl)
theorem rhsum_k22:(cbL tab).pc 163 [key56,.sl 1 1 [.int .u8 ((97+22:Nat):Int)] .ro]=some (.plain (.int .u64 (hsum 22))):=fact_run noF 300 (by kernel_rfl)
theorem rhsum_k23:(cbL tab).pc 163 [key56,.sl 1 1 [.int .u8 ((97+23:Nat):Int)] .ro]=some (.plain (.int .u64 (hsum 23))):=fact_run noF 300 (by kernel_rfl)
theorem rhsum_k24:(cbL tab).pc 163 [key56,.sl 1 1 [.int .u8 ((97+24:Nat):Int)] .ro]=some (.plain (.int .u64 (hsum 24))):=fact_run noF 300 (by kernel_rfl)
theorem rhsum_k25:(cbL tab).pc 163 [key56,.sl 1 1 [.int .u8 ((97+25:Nat):Int)] .ro]=some (.plain (.int .u64 (hsum 25))):=fact_run noF 300 (by kernel_rfl)
theorem rhsum_k26:(cbL tab).pc 163 [key56,.sl 1 1 [.int .u8 ((97+26:Nat):Int)] .ro]=some (.plain (.int .u64 (hsum 26))):=fact_run noF 300 (by kernel_rfl)
theorem rhsum_k27:(cbL tab).pc 163 [key56,.sl 1 1 [.int .u8 ((97+27:Nat):Int)] .ro]=some (.plain (.int .u64 (hsum 27))):=fact_run noF 300 (by kernel_rfl)
theorem rhsum_k28:(cbL tab).pc 163 [key56,.sl 1 1 [.int .u8 ((97+28:Nat):Int)] .ro]=some (.plain (.int .u64 (hsum 28))):=fact_run noF 300 (by kernel_rfl)
theorem rhsum_k29:(cbL tab).pc 163 [key56,.sl 1 1 [.int .u8 ((97+29:Nat):Int)] .ro]=some (.plain (.int .u64 (hsum 29))):=fact_run noF 300 (by kernel_rfl)
theorem rhsum_k:∀i:Nat,i<30->(cbL tab).pc 163 [key56,.sl 1 1 [.int .u8 ((97+i:Nat):Int)] .ro]=some (.plain (.int .u64 (hsum i)))
 |0,_=>rhsum_k0
 |1,_=>rhsum_k1
 |2,_=>rhsum_k2
 |3,_=>rhsum_k3
 |4,_=>rhsum_k4
 |5,_=>rhsum_k5
 |6,_=>rhsum_k6
 |7,_=>rhsum_k7
 |8,_=>rhsum_k8
 |9,_=>rhsum_k9
 |10,_=>rhsum_k10
 |11,_=>rhsum_k11
 |12,_=>rhsum_k12
 |13,_=>rhsum_k13
 |14,_=>rhsum_k14
 |15,_=>rhsum_k15
 |16,_=>rhsum_k16
 |17,_=>rhsum_k17
 |18,_=>rhsum_k18
 |19,_=>rhsum_k19
 |20,_=>rhsum_k20
 |21,_=>rhsum_k21
 |22,_=>rhsum_k22
 |23,_=>rhsum_k23
 |24,_=>rhsum_k24
 |25,_=>rhsum_k25
 |26,_=>rhsum_k26
 |27,_=>rhsum_k27
 |28,_=>rhsum_k28
 |29,_=>rhsum_k29
 |n+30,h=>absurd h (by omega)
end Go.Proofs.YtephfpdnhdpmkaaGreatDoor
