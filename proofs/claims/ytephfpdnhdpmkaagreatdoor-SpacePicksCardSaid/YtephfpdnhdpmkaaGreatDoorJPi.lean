/- THE STATEMENT SpacePicks, ITS CARD, PROVED: the interpreter stands for the program, and it comes to true; the tie is the given one. No condition beyond the statement's own. -/
import Derived.Test.YtephfpdnhdpmkaaGreatDoorRows
import Derived.Test.YtephfpdnhdpmkaaGreatDoorCards
import Derived.Test.YtephfpdnhdpmkaaGreatDoorTie
import Derived.Test.YtephfpdnhdpmkaaGreatDoorAmOpen
import Derived.LaidMore
import Derived.Lay
import Derived.SevenTiedAt
import Derived.Test.YtephfpdnhdpmkaaGreatDoorQ3
import Derived.Test.YtephfpdnhdpmkaaGreatDoorQ1
set_option linter.all false
namespace Go.Proofs.YtephfpdnhdpmkaaGreatDoor.spacePicks
open Go Go.Am Go.ChangeShapes Go.WideShapes Go.ChangeAt Go.RowKit Go.Proofs
theorem own:ownKnob Tryz.prog.godebug=none:=by kernel_rfl
theorem laid:laidOutB Tryz.prog=true:=by kernel_rfl
theorem sh0:qj Tryz.prog 9 26=some [.int .i64,.int .i64,.int .i64,.int .i64,.slice [.int .i64],.slice [.int .i64],.slice [.int .i64]]:=by kernel_rfl
theorem sh1:qj Tryz.prog 9 3=some [.int .i64]:=by kernel_rfl
theorem readable:∀t∈Tryz.f4.params.toList,Tryz.prog.readableRec t=true/\t<Tryz.prog.types.size:=by
 have h:(Tryz.f4.params.toList.all fun t=>Tryz.prog.readableRec t&&Nat.blt t Tryz.prog.types.size)=true:=by kernel_rfl
 intro t ht;have:=List.all_eq_true.1 h t ht;simpa[Nat.blt_eq] using this
set_option maxRecDepth 100000 in
theorem lifted (os:Os) (started:os.Started) (H:Type) (enc:TypeId×Value->H):
   ReturnsInHanded {} Tryz.checked os 4 .any (fun w args=>(Rows.spacePicksSpec.pre enc Tryz.prog Tryz.f4 Rows.spacePicksRow.domain false w args/\laidMetH Tryz.prog Rows.spacePicksRow.laid w)/\sizedMet enc Tryz.prog Tryz.f4 (OpenSpec.ofChange Rows.spacePicksSpec) false w args)
     (Rows.spacePicksSpec.post enc Tryz.prog Tryz.f4 false true false false):=by
 refine returnsInHanded_of_change_and (C:=Tryz.checked) (X:=fun w _=>laidMetH Tryz.prog Rows.spacePicksRow.laid w) (fun _ _ _ hh h=>h.of_heap hh) own started (by kernel_rfl) Tryz.func4
   (ChangeSpec.witness_shaped (enc:=enc) (C:=Tryz.checked) (os:=os) (X:=fun w _=>laidMetH Tryz.prog Rows.spacePicksRow.laid w) false (World.laidAll Tryz.prog os Rows.spacePicksRow.laid) #[.agg #[.int .i64 0,.int .i64 0,.int .i64 0,.int .i64 0,.slice none 0 0,.slice none 0 0,.slice none 0 0],.int .i64 0] 8 (World.laidAll_os _ _ _)
     (World.shaped_of_ZipB (by kernel_rfl) (by kernel_rfl)) (by kernel_rfl) (by kernel_rfl) (by kernel_rfl)
     (by rw[MakeChecks.laidMetH_plain _ _ _ (by kernel_rfl)];exact laidMet_laidAll _ (by kernel_rfl) (by kernel_rfl))) ?_
 intro W base args ds gs before hval0 hW hcnd u1 u2 u3;have hval:∀(j:Nat) t v,Tryz.f4.params[j]? =some t->args[j]? =some v->Value.okWide Tryz.prog W .any base t v:=hval0;have hW':=hW;obtain⟨p,q,hA0,hV,rfl,hfz,hnd⟩:=hW;have hA:DataW.TrodAll enc Tryz.prog W 0 (fun _=>true) true Tryz.f4.params.toList args.toList ds p:=hA0;rw[Tryz.params4]at hA hval;obtain⟨v0,vs0,d0,ds0,p0,q0,hargs,rfl,rfl,h0,r0⟩:=trodAll_cons hA;obtain⟨v1,vs1,d1,ds1,p1,q1,rfl,rfl,rfl,h1,r1⟩:=trodAll_cons r0;obtain⟨rfl,rfl,rfl⟩:=trodAll_nil r1
 obtain rfl:args= #[v0,v1]:=by cases args;simp_all
 obtain⟨rfl,rfl⟩:=trodVars_none hV;obtain⟨x0,o0,k0⟩:=zb Tryz.underlying26 sh0 (hval 0 26 v0 rfl rfl) h0;obtain⟨x1,o1,k1⟩:=Gz sh1 (by intro fs h;rw[Tryz.underlying3]at h;cases h) (hval 1 3 v1 rfl rfl) h1;clear hA0 hval0;simp only[List.append_nil]at hW'
 refine(Ip Mn (f:=4) (avs:=[.agg x0,x1]) (by exact al.cons k0 (al.cons k1 (al.nil _))) (wW o0 o1) (uD (by first|exact u1|exact u2|exact u3))).mono fun e W2 ⟨he,hb⟩=> ?_
 subst he;exact⟨_,rfl,FW (tb:=4) laid rfl readable (by kernel_rfl) (by kernel_rfl) hW' rfl hb⟩
theorem over:Rows.SpacePicksSaid:=
 OpenClaim.holds_of_wide 4 Tryz.f4 rfl rfl rfl rfl rfl rfl rfl ⟨rfl,rfl,rfl,rfl,rfl⟩ rfl rfl rfl rfl rfl (by kernel_rfl) Tryz.func4 (by kernel_rfl)
   (of_decide_eq_true (by kernel_rfl)) (by unfold Func.isWrapper;first|(rw[if_pos (by decide+kernel)];kernel_rfl)|(rw[if_neg (by decide+kernel)];exact⟨rfl,rfl⟩))
   (fun os started H enc _=>lifted os started H enc)
theorem proved:Rows.SpacePicksCardSaid:=
 Claim7.holds_tied_plain_at .later [] [.data] true Rows.spacePicksCard.stood.harness true over (fun _ h=>by cases h) (by kernel_rfl) (fun _ h=>by cases h) spacePicks_row_tie rfl ⟨rfl,rfl⟩ (by kernel_rfl) rfl
   (fun f fn hf hfn=>by
     obtain rfl:f=4:=Option.some.inj ((show Tryz.prog.funcNamed Rows.spacePicksRow.func=some 4 by kernel_rfl).symm.trans hf) |>.symm
     obtain rfl:fn=Tryz.f4:=(Option.some.inj (Tryz.func4.symm.trans hfn)).symm
     exact⟨by kernel_rfl,fun j t ht=>by
       rw[Tryz.params4]at ht
       have hm:t∈[26,3]:=by simpa using Array.mem_of_getElem? ht
       have hall:([26,3].all fun u=> !Tryz.prog.wantsStandIn u)=true:=by kernel_rfl
       exact(show Tryz.prog.wantsStandIn t=false by simpa using List.all_eq_true.1 hall t hm)⟩)
   (by kernel_rfl)
end Go.Proofs.YtephfpdnhdpmkaaGreatDoor.spacePicks
