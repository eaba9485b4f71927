/- THE STATEMENT RedoLeaves, PROVED: the interpreter stands for the program, and it comes to true. No condition beyond the statement's own. -/
import Derived.Test.YtogbblcnfcfflaaGreatRows
import Derived.Test.YtogbblcnfcfflaaGreatAmOpen
import Derived.Test.YtogbblcnfcfflaaGreatQ3
import Derived.Test.YtogbblcnfcfflaaGreatRTab
set_option linter.all false
namespace Go.Proofs.YtogbblcnfcfflaaGreat.redoLeaves
open Go Go.Am Go.ChangeShapes Go.WideShapes Go.ChangeAt Go.RowKit Go.Proofs
theorem own:ownKnob Tryz.prog.godebug=none:=by kernel_rfl
theorem laid:laidOutB Tryz.prog=true:=by kernel_rfl
theorem sh0:shOf Tryz.prog 9 24=some [.int .i64,.int .i64,.int .i64]:=by kernel_rfl
theorem sh1:shOf Tryz.prog 9 25=some [.slice [.int .i64,.int .u64]]:=by kernel_rfl
theorem sh2:shOf Tryz.prog 9 3=some [.int .i64]:=by kernel_rfl
theorem sh3:shOf Tryz.prog 9 26=some [.int .u64]:=by kernel_rfl
theorem readable:∀t∈Tryz.f3.params.toList,Tryz.prog.readableRec t=true/\t<Tryz.prog.types.size:=by
 have h:(Tryz.f3.params.toList.all fun t=>Tryz.prog.readableRec t&&Nat.blt t Tryz.prog.types.size)=true:=by kernel_rfl
 intro t ht
 have:=List.all_eq_true.1 h t ht
 simpa[Nat.blt_eq] using this
set_option maxRecDepth 100000 in
theorem lifted (os:Os) (started:os.Started) (H:Type) (enc:TypeId×Value->H):
   ReturnsInHanded {} Tryz.checked os 3 .any (Rows.redoLeavesSpec.pre6 enc Tryz.prog Tryz.f3 Rows.redoLeavesRow.domain false) (Rows.redoLeavesSpec.post enc Tryz.prog Tryz.f3 false true false false):=by
 refine returnsInHanded_of_change (C:=Tryz.checked) own started (by kernel_rfl) Tryz.func3
   (ChangeSpec.witness6 (enc:=enc) (C:=Tryz.checked) false ⟨#[],#[.agg #[.int .i64 0,.int .i64 0,.int .i64 0],.slice none 0 0,.int .i64 0,.int .u64 0],[]⟩ 8 (by kernel_rfl) (by kernel_rfl) (by kernel_rfl) (by kernel_rfl)) ?_
 intro W base args ds gs before hval0 hW hcnd _
 have hval:∀(j:Nat) t v,Tryz.f3.params[j]? =some t->args[j]? =some v->Value.okWide Tryz.prog W .any base t v:=hval0
 have hW':=hW
 obtain⟨p,q,hA0,hV,rfl,hfz,hnd⟩:=hW
 have hA:DataW.TrodAll enc Tryz.prog W 0 (fun _=>true) true Tryz.f3.params.toList args.toList ds p:=hA0
 rw[Tryz.params3]at hA hval
 obtain⟨v0,vs0,d0,ds0,p0,q0,hargs,rfl,rfl,h0,r0⟩:=trodAll_cons hA
 obtain⟨v1,vs1,d1,ds1,p1,q1,rfl,rfl,rfl,h1,r1⟩:=trodAll_cons r0
 obtain⟨v2,vs2,d2,ds2,p2,q2,rfl,rfl,rfl,h2,r2⟩:=trodAll_cons r1
 obtain⟨v3,vs3,d3,ds3,p3,q3,rfl,rfl,rfl,h3,r3⟩:=trodAll_cons r2
 obtain⟨rfl,rfl,rfl⟩:=trodAll_nil r3
 obtain rfl:args= #[v0,v1,v2,v3]:=by cases args;simp_all
 obtain⟨rfl,rfl⟩:=trodVars_none hV
 obtain⟨x0,o0,k0⟩:=arg_struct Tryz.underlying24 sh0 (hval 0 24 v0 rfl rfl) h0
 obtain⟨x1,o1,k1⟩:=arg_cell sh1 (by intro fs h;rw[Tryz.underlying25]at h;cases h) (hval 1 25 v1 rfl rfl) h1
 obtain⟨x2,o2,k2⟩:=arg_cell sh2 (by intro fs h;rw[Tryz.underlying3]at h;cases h) (hval 2 3 v2 rfl rfl) h2
 obtain⟨x3,o3,k3⟩:=arg_cell sh3 (by intro fs h;rw[Tryz.underlying26]at h;cases h) (hval 3 26 v3 rfl rfl) h3
 clear hA0 hval0
 simp only[List.append_nil]at hW'
 refine(law_true tabOk (f:=3) (avs:=[.agg x0,x1,x2,x3]) (by exact RepL.cons k0 (RepL.cons k1 (RepL.cons k2 (RepL.cons k3 (RepL.nil _))))) (redoLeaves_pc o0 o1 o2 o3)).mono fun e W2 ⟨he,hb⟩=> ?_
 subst he
 exact⟨_,rfl,post_law (tb:=4) laid rfl readable (by kernel_rfl) (by kernel_rfl) hW' rfl hb⟩
theorem over:Rows.redoLeavesRow.holds Tryz.pinned (OpenSpec.ofChange Rows.redoLeavesSpec):=
 OpenClaim.holds_of_wide 3 Tryz.f3 rfl rfl rfl rfl rfl rfl rfl ⟨rfl,rfl,rfl,rfl,rfl⟩ rfl rfl rfl rfl rfl (by kernel_rfl) Tryz.func3 (by kernel_rfl)
   (of_decide_eq_true (by kernel_rfl)) (by unfold Func.isWrapper;first|(rw[if_pos (by decide+kernel)];kernel_rfl)|(rw[if_neg (by decide+kernel)];exact⟨rfl,rfl⟩))
   (fun os started H enc _=>lifted os started H enc)
theorem proved:Rows.RedoLeavesSaid:=over
end Go.Proofs.YtogbblcnfcfflaaGreat.redoLeaves
