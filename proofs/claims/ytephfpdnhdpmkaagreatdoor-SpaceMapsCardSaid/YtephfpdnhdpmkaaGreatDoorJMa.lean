/- THE STATEMENT SpaceMaps, ITS CARD, PROVED: the interpreter stands for the program, and it comes to true; the tie is the given one. No condition beyond the statement's own. -/
import Derived.Test.YtephfpdnhdpmkaaGreatDoorRows
import Derived.Test.YtephfpdnhdpmkaaGreatDoorCards
import Derived.Test.YtephfpdnhdpmkaaGreatDoorTie
import Derived.Test.YtephfpdnhdpmkaaGreatDoorAmOpen
import Derived.LaidMore
import Derived.Lay
import Derived.SevenTiedAt
import Derived.Test.YtephfpdnhdpmkaaGreatDoorQ3
import Derived.Test.YtephfpdnhdpmkaaGreatDoorQ1
set_option linter.all false
namespace Go.Proofs.YtephfpdnhdpmkaaGreatDoor.spaceMaps
open Go Go.Am Go.ChangeShapes Go.WideShapes Go.ChangeAt Go.RowKit Go.Proofs
theorem own:ownKnob Tryz.prog.godebug=none:=by kernel_rfl
theorem laid:laidOutB Tryz.prog=true:=by kernel_rfl
theorem sh0:oi Tryz.prog 9 26=some [.int .i64,.int .i64,.int .i64,.int .i64,.slice [.int .i64],.slice [.int .i64],.slice [.int .i64]]:=by kernel_rfl
theorem sh1:oi Tryz.prog 9 55=some [.slice [.int .u64]]:=by kernel_rfl
theorem sh2:oi Tryz.prog 9 3=some [.int .i64]:=by kernel_rfl
theorem readable:∀t∈Tryz.f6.params.toList,Tryz.prog.readableRec t=true/\t<Tryz.prog.types.size:=by
 have h:(Tryz.f6.params.toList.all fun t=>Tryz.prog.readableRec t&&Nat.blt t Tryz.prog.types.size)=true:=by kernel_rfl
 intro t ht;have:=List.all_eq_true.1 h t ht;simpa[Nat.blt_eq] using this
set_option maxRecDepth 100000 in
theorem lifted (os:Os) (started:os.Started) (H:Type) (enc:TypeId×Value->H):
   ReturnsInHanded {} Tryz.checked os 6 .any (fun w args=>(Rows.spaceMapsSpec.pre enc Tryz.prog Tryz.f6 Rows.spaceMapsRow.domain false w args/\laidMetH Tryz.prog Rows.spaceMapsRow.laid w)/\sizedMet enc Tryz.prog Tryz.f6 (OpenSpec.ofChange Rows.spaceMapsSpec) false w args)
     (Rows.spaceMapsSpec.post enc Tryz.prog Tryz.f6 false true false false):=by
 refine returnsInHanded_of_change_and (C:=Tryz.checked) (X:=fun w _=>laidMetH Tryz.prog Rows.spaceMapsRow.laid w) (fun _ _ _ hh h=>h.of_heap hh) own started (by kernel_rfl) Tryz.func6
   (ChangeSpec.witness_shaped (enc:=enc) (C:=Tryz.checked) (os:=os) (X:=fun w _=>laidMetH Tryz.prog Rows.spaceMapsRow.laid w) false (World.laidAll Tryz.prog os Rows.spaceMapsRow.laid) #[.agg #[.int .i64 0,.int .i64 0,.int .i64 0,.int .i64 0,.slice none 0 0,.slice none 0 0,.slice none 0 0],.slice none 0 0,.int .i64 0] 8 (World.laidAll_os _ _ _)
     (World.shaped_of_ZipB (by kernel_rfl) (by kernel_rfl)) (by kernel_rfl) (by kernel_rfl) (by kernel_rfl)
     (by rw[MakeChecks.laidMetH_plain _ _ _ (by kernel_rfl)];exact laidMet_laidAll _ (by kernel_rfl) (by kernel_rfl))) ?_
 intro W base args ds gs before hval0 hW hcnd u1 u2 u3;have hval:∀(j:Nat) t v,Tryz.f6.params[j]? =some t->args[j]? =some v->Value.okWide Tryz.prog W .any base t v:=hval0;have hW':=hW;obtain⟨p,q,hA0,hV,rfl,hfz,hnd⟩:=hW;have hA:DataW.TrodAll enc Tryz.prog W 0 (fun _=>true) true Tryz.f6.params.toList args.toList ds p:=hA0;rw[Tryz.params6]at hA hval;obtain⟨v0,vs0,d0,ds0,p0,q0,hargs,rfl,rfl,h0,r0⟩:=trodAll_cons hA;obtain⟨v1,vs1,d1,ds1,p1,q1,rfl,rfl,rfl,h1,r1⟩:=trodAll_cons r0;obtain⟨v2,vs2,d2,ds2,p2,q2,rfl,rfl,rfl,h2,r2⟩:=trodAll_cons r1;obtain⟨rfl,rfl,rfl⟩:=trodAll_nil r2
 obtain rfl:args= #[v0,v1,v2]:=by cases args;simp_all
 obtain⟨rfl,rfl⟩:=trodVars_none hV;obtain⟨x0,o0,k0⟩:=yC Tryz.underlying26 sh0 (hval 0 26 v0 rfl rfl) h0;obtain⟨x1,o1,k1⟩:=wR sh1 (by intro fs h;rw[Tryz.underlying55]at h;cases h) (hval 1 55 v1 rfl rfl) h1;obtain⟨x2,o2,k2⟩:=wR sh2 (by intro fs h;rw[Tryz.underlying3]at h;cases h) (hval 2 3 v2 rfl rfl) h2;clear hA0 hval0;simp only[List.append_nil]at hW'
 refine(F2 Ly (f:=6) (avs:=[.agg x0,x1,x2]) (by exact aj.cons k0 (aj.cons k1 (aj.cons k2 (aj.nil _)))) (zb o0 o1 o2) (tX (by first|exact u1|exact u2|exact u3))).mono fun e W2 ⟨he,hb⟩=> ?_
 subst he;exact⟨_,rfl,FL (tb:=4) laid rfl readable (by kernel_rfl) (by kernel_rfl) hW' rfl hb⟩
theorem over:Rows.SpaceMapsSaid:=
 OpenClaim.holds_of_wide 6 Tryz.f6 rfl rfl rfl rfl rfl rfl rfl ⟨rfl,rfl,rfl,rfl,rfl⟩ rfl rfl rfl rfl rfl (by kernel_rfl) Tryz.func6 (by kernel_rfl)
   (of_decide_eq_true (by kernel_rfl)) (by unfold Func.isWrapper;first|(rw[if_pos (by decide+kernel)];kernel_rfl)|(rw[if_neg (by decide+kernel)];exact⟨rfl,rfl⟩))
   (fun os started H enc _=>lifted os started H enc)
theorem proved:Rows.SpaceMapsCardSaid:=
 Claim7.holds_tied_plain_at .later [] [.data] true Rows.spaceMapsCard.stood.harness true over (fun _ h=>by cases h) (by kernel_rfl) (fun _ h=>by cases h) spaceMaps_row_tie rfl ⟨rfl,rfl⟩ (by kernel_rfl) rfl
   (fun f fn hf hfn=>by
     obtain rfl:f=6:=Option.some.inj ((show Tryz.prog.funcNamed Rows.spaceMapsRow.func=some 6 by kernel_rfl).symm.trans hf) |>.symm
     obtain rfl:fn=Tryz.f6:=(Option.some.inj (Tryz.func6.symm.trans hfn)).symm
     exact⟨by kernel_rfl,fun j t ht=>by
       rw[Tryz.params6]at ht
       have hm:t∈[26,55,3]:=by simpa using Array.mem_of_getElem? ht
       have hall:([26,55,3].all fun u=> !Tryz.prog.wantsStandIn u)=true:=by kernel_rfl
       exact(show Tryz.prog.wantsStandIn t=false by simpa using List.all_eq_true.1 hall t hm)⟩)
   (by kernel_rfl)
end Go.Proofs.YtephfpdnhdpmkaaGreatDoor.spaceMaps
