/- THE OPERATIONS THAT ACT, all together. No condition. -/
import Derived.Test.YtephfpdnhdpmkaaGreatDoorAmAct2
set_option linter.all false
namespace Go.Am
open Go Go.RowKit
set_option linter.unusedSectionVars false
variable [dy]
variable {P:Program} {w0:World} {V:View} {H:ab} {W:World} {tm:List AV} {a:Act}
theorem ot (hW:WR P w0 V H W) (hT:aj V tm a.tmps.toList) {o:Oper} {args:Array Operand} {tys:Array TypeId} {nx:Nx} {H':ab} {ao:AOp}
   (ho:o.op= .call {callee:= .builtin .append,args:=args,argTypes:=tys}) (hc:cOp P o=some ao) (h:bI ao tm H=some (nx,H')):fJ P w0 V H W a o H' nx:=by
 simp only[cOp,ho,cc]at hc;split at hc
 . rename_i x y t u hargs htys;split at hc
   . rename_i htu;subst htu;split at hc
     . rename_i e he;split at hc
       . rename_i i z x' y' hi hz hx hy;cases hc
         have hu:P.underlying t=some (.slice e):=by
           simp only[iH]at he;split at he
           . rename_i e' he';cases he;exact he'
           . cases he
         have ha:args= #[x,y]:=by rw[<-Array.toList_inj];exact hargs
         have ht:tys= #[t,t]:=by rw[<-Array.toList_inj];exact htys
         subst ha ht;split at h
         . simp[bI]at h
         split at h
         . simp[bI]at h
         split at h
         . exact yf hW hT ho hu hi hz hx hy h
         . exact y0 hW hT ho hu hi hz hx hy h
       . cases hc
     . cases hc
   . split at hc
     . rename_i e k he hk;split at hc
       . rename_i i z x' y' hi hz hx hy;cases hc;have hu':=dI he
         have ha:args= #[x,y]:=by rw[<-Array.toList_inj];exact hargs
         have ht:tys= #[t,u]:=by rw[<-Array.toList_inj];exact htys
         subst ha ht;split at h
         . simp[bI]at h
         exact GL hW hT ho hu' hk hi hz hx hy h
       . cases hc
     . cases hc
 . cases hc
theorem cu (hW:WR P w0 V H W) (hT:aj V tm a.tmps.toList) {o:Oper} {nx:Nx} {H':ab} {ao:AOp} (hc:cOp P o=some ao) (h:bI ao tm H=some (nx,H')):fJ P w0 V H W a o H' nx:=by
 cases ho:o.op with
 |alloc t=>exact Cr hW ho hc h
 |box t x=>exact J2 hW hT ho hc h
 |store t x y=>exact CM hW hT ho hc h
 |makeMap t r=>exact CG hW ho hc h
 |makeSlice t l c=>exact tM hW hT ho hc h
 | mapUpdate t m k x=>
   simp only[cOp,ho]at hc;split at hc
   . rename_i kt et m' k' x' hu hm hk hx;obtain⟨kk,hkk,rfl⟩:=Option.map_eq_some_iff.1 hc;exact tC hW hT (by simp[execOp,ho]) hu hm hk hx hkk h
   . cases hc
 | insert t m k x=>
   simp only[cOp,ho]at hc;split at hc
   . rename_i kt et m' k' x' hu hm hk hx;obtain⟨kk,hkk,rfl⟩:=Option.map_eq_some_iff.1 hc;exact tC hW hT (by simp[execOp,ho]) hu hm hk hx hkk h
   . cases hc
 |panic x=>exact CT hT ho hc h
 |defer c=>exact HA hT ho hc h
 | call c=>
   obtain⟨callee,args,tys⟩:=c
   cases callee with
   | value f=>
     have key:∀(f':X) (xs:List X),cX f=some f'->cK cX args.toList=some xs->ao= .cf f' xs->fJ P w0 V H W a o H' nx:=by
       rintro f' xs hf hx rfl
       exact BZ hT ho hf hx h
     simp only[cOp,ho,cc]at hc
     cases f<;>simp only at hc
     case func f=>
       split at hc
       . exfalso;obtain⟨xs,_,hc⟩:=Option.bind_eq_some_iff.1 hc;unfold uf at hc;split at hc
         . cases hc;simp only[bI]at h;cases h
         . cases hc;simp only[bI]at h;cases h
         . cases hc
       obtain⟨xs,hx,rfl⟩:=Option.map_eq_some_iff.1 hc;split at h
       . exact mB (rw:=false) hT ho hx h
       split at h
       . exact mB hT ho hx h
       split at h
       . exact mB hT ho hx h
       . exact rS hT ho hx h
     all_goals
       split at hc
       . rename_i f' as hf hx;cases hc;exact key _ _ hf hx rfl
       . cases hc
   |invoke r m=>simp[cOp,ho,cc]at hc
   | builtin b=>
     cases b with
     |append=>exact ot hW hT ho hc h
     |clear=>simp[cOp,ho,cc]at hc
     |copy=>exact Ix hW hT ho hc h
     | recover=>
       simp only[cOp,ho,cc]at hc;split at hc
       . rename_i hsz;cases hc;cases h
         exact⟨rfl,by
           have:args= #[]:=Array.eq_empty_of_size_eq_zero hsz;subst this
           simp[execOp,ho,resolve,invoke,builtin]⟩
       . cases hc
     | len=>
       exfalso;simp only[cOp,ho,cc]at hc
       split at hc<;>(try (cases hc;done))
       split at hc<;>cases hc<;>cases h
     | min=>
       exfalso;simp only[cOp,ho,cc]at hc;split at hc
       . split at hc<;>cases hc;cases h
       . cases hc
     | max=>
       exfalso;simp only[cOp,ho,cc]at hc;split at hc
       . split at hc<;>cases hc;cases h
       . cases hc
     |_=>exfalso;simp[cOp,ho,cc]at hc;done
 |move x=>exfalso;simp only[cOp,ho]at hc;obtain⟨x',_,rfl⟩:=Option.map_eq_some_iff.1 hc;cases h
 |assign x=>exfalso;simp only[cOp,ho]at hc;obtain⟨x',_,rfl⟩:=Option.map_eq_some_iff.1 hc;cases h
 |pick c x y=>exfalso;simp only[cOp,ho]at hc;split at hc<;>cases hc;cases h
 | build t ps=>
   exfalso;simp only[cOp,ho]at hc;split at hc
   . split at hc
     . obtain⟨x',_,rfl⟩:=Option.map_eq_some_iff.1 hc;cases h
     . cases hc
   . split at hc
     . obtain⟨x',_,rfl⟩:=Option.map_eq_some_iff.1 hc;cases h
     . cases hc
   . cases hc
 |buildSlice t n ps=>exact Cb hW hT ho hc h
 | load t x=>
   exfalso;simp only[cOp,ho]at hc;split at hc
   . split at hc<;>cases hc;cases h
   . cases hc
 |nilCheck x=>exfalso;simp only[cOp,ho]at hc;obtain⟨x',_,rfl⟩:=Option.map_eq_some_iff.1 hc;cases h
 |binOp op t x y _=>exfalso;simp only[cOp,ho]at hc;split at hc<;>cases hc;cases h
 |sliceToArrayPointer t x=>exfalso;simp only[cOp,ho]at hc;split at hc<;>cases hc;cases h
 |unOp op t x=>exfalso;simp only[cOp,ho]at hc;obtain⟨x',_,rfl⟩:=Option.map_eq_some_iff.1 hc;cases h
 | convert s d x=>
   exfalso;simp only[cOp,ho]at hc;split at hc
   . cases hc;cases h
   . cases hc;cases h
   . split at hc<;>cases hc;cases h
   . split at hc<;>cases hc;cases h
   . cases hc
 | makeInterface t x=>
   exfalso;simp only[cOp,ho]at hc;split at hc
   . cases hc
   . obtain⟨x',_,rfl⟩:=Option.map_eq_some_iff.1 hc;cases h
   . cases hc
 | makeFunc f fs cs=>
   exfalso
   cases f<;>simp only[cOp,ho]at hc<;>(try (cases hc;done))
   split at hc
   . obtain⟨x',_,rfl⟩:=Option.map_eq_some_iff.1 hc;cases h
   . split at hc
     . obtain⟨x',_,rfl⟩:=Option.map_eq_some_iff.1 hc;cases h
     . cases hc
 | slice t x lo hi mx=>
   exfalso
   cases mx with
   | none=>
     simp only[cOp,ho]at hc;split at hc
     . obtain⟨x',_,rfl⟩:=Option.map_eq_some_iff.1 hc;cases h
     . cases hc;cases h
     . obtain⟨x',_,rfl⟩:=Option.map_eq_some_iff.1 hc;cases h
     . cases hc
   | some mx=>
     cases hi with
     |none=>simp only[cOp,ho]at hc;cases hc
     | some hi=>
       simp only[cOp,ho]at hc;split at hc
       . obtain⟨x',_,rfl⟩:=Option.map_eq_some_iff.1 hc;cases h
       . cases hc
 | fieldAddr t x f=>
   exfalso;simp only[cOp,ho]at hc;split at hc
   . split at hc
     . split at hc<;>cases hc;cases h
     . cases hc
   . cases hc
 | field t x f=>
   exfalso;simp only[cOp,ho]at hc;split at hc
   . split at hc
     . split at hc
       . cases hc;cases h
       . cases hc
     . cases hc
   . cases hc
 | indexAddr t x i=>
   exfalso;simp only[cOp,ho]at hc;split at hc
   . obtain⟨x',_,rfl⟩:=Option.map_eq_some_iff.1 hc;cases h
   . obtain⟨x',_,rfl⟩:=Option.map_eq_some_iff.1 hc;cases h
   . cases hc
 | index t x i=>
   exfalso;simp only[cOp,ho]at hc;split at hc
   . split at hc
     . cases hc;cases h
     . cases hc
   . cases hc;cases h
   . cases hc
 | lookup t x i ok=>
   exfalso;simp only[cOp,ho]at hc;split at hc
   . split at hc
     . cases hc;cases h
     . cases hc
   . cases hc
 | typeAssert x s t ok=>
   exfalso;simp only[cOp,ho]at hc;split at hc
   . cases hc
   . obtain⟨x',_,rfl⟩:=Option.map_eq_some_iff.1 hc;cases h
   . cases hc
 |extract x i=>exfalso;simp only[cOp,ho]at hc;obtain⟨x',_,rfl⟩:=Option.map_eq_some_iff.1 hc;cases h
 |_=>simp[cOp,ho]at hc
end Go.Am
