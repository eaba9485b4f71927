/- THE STATEMENT WalkAsks, ITS CARD, PROVED: the interpreter stands for the program, and it comes to true; the tie is the given one. No condition beyond the statement's own. -/
import Derived.Test.YtmogflndepihnaaDoorRows
import Derived.Test.YtmogflndepihnaaDoorCards
import Derived.Test.YtmogflndepihnaaDoorTie
import Derived.Test.YtmogflndepihnaaDoorAmOpen
import Derived.LaidMore
import Derived.Lay
import Derived.SevenTiedAt
import Derived.Test.YtmogflndepihnaaDoorLAs
import Derived.Test.YtmogflndepihnaaDoorNTab
set_option linter.unusedSimpArgs false
set_option linter.unusedVariables false
set_option linter.unusedSectionVars false
namespace Go.Proofs.YtmogflndepihnaaDoor.walkAsks
open Go Go.Am Go.ChangeShapes Go.WideShapes Go.ChangeAt Go.RowKit Go.Proofs
theorem own : ownKnob Tryd.prog.godebug = none := by kernel_rfl
theorem laid : laidOutB Tryd.prog = true := by kernel_rfl
theorem sh0 : shOf Tryd.prog 9 9 = some [.str] := by kernel_rfl
theorem sh1 : shOf Tryd.prog 9 4 = some [.bool] := by kernel_rfl
theorem sh2 : shOf Tryd.prog 9 82 = some [.slice [.bool, .int .i64, .int .i64, .str]] := by kernel_rfl
theorem readable : ∀ t ∈ Tryd.f12.params.toList, Tryd.prog.readableRec t = true ∧ t < Tryd.prog.types.size := by
  have h : (Tryd.f12.params.toList.all fun t => Tryd.prog.readableRec t && Nat.blt t Tryd.prog.types.size) = true := by kernel_rfl
  intro t ht
  have := List.all_eq_true.1 h t ht
  simpa [Nat.blt_eq] using this
set_option maxRecDepth 100000 in
theorem lifted (os : Os) (started : os.Started) (H : Type) (enc : TypeId × Value → H) :
    ReturnsInHanded {} Tryd.checked os 12 .any (fun w args => (Rows.walkAsksSpec.pre enc Tryd.prog Tryd.f12 Rows.walkAsksRow.domain false w args ∧ laidMetH Tryd.prog Rows.walkAsksRow.laid w) ∧ sizedMet enc Tryd.prog Tryd.f12 (OpenSpec.ofChange Rows.walkAsksSpec) false w args)
      (Rows.walkAsksSpec.post enc Tryd.prog Tryd.f12 false true false false) := by
  refine returnsInHanded_of_change_and (C := Tryd.checked) (X := fun w _ => laidMetH Tryd.prog Rows.walkAsksRow.laid w) (fun _ _ _ hh h => h.of_heap hh) own started (by kernel_rfl) Tryd.func12
    (ChangeSpec.witness_shaped (enc := enc) (C := Tryd.checked) (os := os) (X := fun w _ => laidMetH Tryd.prog Rows.walkAsksRow.laid w) false (World.laidAll Tryd.prog os Rows.walkAsksRow.laid) #[.string ⟨#[]⟩, .bool false, .slice none 0 0] 8 (World.laidAll_os _ _ _)
      (World.shaped_of_ZipB (by kernel_rfl) (by kernel_rfl)) (by kernel_rfl) (by kernel_rfl) (by kernel_rfl)
      (by rw [MakeChecks.laidMetH_plain _ _ _ (by kernel_rfl)]; exact laidMet_laidAll _ (by kernel_rfl) (by kernel_rfl))) ?_
  intro W base args ds gs before hval0 hW hcnd _ _ _
  have hval : ∀ (j : Nat) t v, Tryd.f12.params[j]? = some t → args[j]? = some v → Value.okWide Tryd.prog W .any base t v := hval0
  have hW' := hW
  obtain ⟨p, q, hA0, hV, rfl, hfz, hnd⟩ := hW
  have hA : DataW.TrodAll enc Tryd.prog W 0 (fun _ => true) true Tryd.f12.params.toList args.toList ds p := hA0
  rw [Tryd.params12] at hA hval
  obtain ⟨v0, vs0, d0, ds0, p0, q0, hargs, rfl, rfl, h0, r0⟩ := trodAll_cons hA
  obtain ⟨v1, vs1, d1, ds1, p1, q1, rfl, rfl, rfl, h1, r1⟩ := trodAll_cons r0
  obtain ⟨v2, vs2, d2, ds2, p2, q2, rfl, rfl, rfl, h2, r2⟩ := trodAll_cons r1
  obtain ⟨rfl, rfl, rfl⟩ := trodAll_nil r2
  obtain rfl : args = #[v0, v1, v2] := by cases args; simp_all
  obtain ⟨rfl, rfl⟩ := trodVars_none hV
  obtain ⟨x0, o0, k0⟩ := arg_cell sh0 (by intro fs h; rw [Tryd.underlying9] at h; cases h) (hval 0 9 v0 rfl rfl) h0
  obtain ⟨x1, o1, k1⟩ := arg_cell sh1 (by intro fs h; rw [Tryd.underlying4] at h; cases h) (hval 1 4 v1 rfl rfl) h1
  obtain ⟨x2, o2, k2⟩ := arg_cell sh2 (by intro fs h; rw [Tryd.underlying82] at h; cases h) (hval 2 82 v2 rfl rfl) h2
  clear hA0 hval0
  simp only [List.append_nil] at hW'
  refine (law_true tabOk (f := 12) (avs := [x0, x1, x2]) (by exact RepL.cons k0 (RepL.cons k1 (RepL.cons k2 (RepL.nil _)))) (walkAsks_pc o0 o1 o2)).mono fun e W2 ⟨he, hb⟩ => ?_
  subst he
  exact ⟨_, rfl, post_law (tb := 4) laid rfl readable (by kernel_rfl) (by kernel_rfl) hW' rfl hb⟩
theorem over : Rows.WalkAsksSaid :=
  OpenClaim.holds_of_wide 12 Tryd.f12 rfl rfl rfl rfl rfl rfl rfl ⟨rfl, rfl, rfl, rfl, rfl⟩ rfl rfl rfl rfl rfl (by kernel_rfl) Tryd.func12 (by kernel_rfl)
    (of_decide_eq_true (by kernel_rfl)) (by unfold Func.isWrapper; first | (rw [if_pos (by decide +kernel)]; kernel_rfl) | (rw [if_neg (by decide +kernel)]; exact ⟨rfl, rfl⟩))
    (fun os started H enc _ => lifted os started H enc)
theorem proved : Rows.WalkAsksCardSaid :=
  Claim7.holds_tied_plain_at .later [] [.data, .pinned] true Rows.walkAsksCard.stood.harness false over (fun _ h => by cases h) (by kernel_rfl) (fun _ h => by cases h) walkAsks_row_tie rfl ⟨rfl, rfl⟩ (by kernel_rfl) rfl
    (fun f fn hf hfn => by
      obtain rfl : f = 12 := Option.some.inj ((show Tryd.prog.funcNamed Rows.walkAsksRow.func = some 12 by kernel_rfl).symm.trans hf) |>.symm
      obtain rfl : fn = Tryd.f12 := (Option.some.inj (Tryd.func12.symm.trans hfn)).symm
      exact ⟨by kernel_rfl, fun j t ht => by
        rw [Tryd.params12] at ht
        have hm : t ∈ [9, 4, 82] := by simpa using Array.mem_of_getElem? ht
        have hall : ([9, 4, 82].all fun u => !Tryd.prog.wantsStandIn u) = true := by kernel_rfl
        exact (show Tryd.prog.wantsStandIn t = false by simpa using List.all_eq_true.1 hall t hm)⟩)
    (by kernel_rfl)
end Go.Proofs.YtmogflndepihnaaDoor.walkAsks
