/- THE STATEMENT RecordOrders, PROVED: the interpreter stands for the program, and it comes to true. No condition beyond the statement's own. -/
import Derived.Test.YtailfegmnkldoaaRows
import Derived.Test.YtailfegmnkldoaaAmOpen
import Derived.Test.YtailfegmnkldoaaLOr
import Derived.Test.YtailfegmnkldoaaKTab
set_option linter.unusedSimpArgs false
set_option linter.unusedVariables false
set_option linter.unusedSectionVars false
namespace Go.Proofs.Ytailfegmnkldoaa.recordOrders
open Go Go.Am Go.ChangeShapes Go.WideShapes Go.ChangeAt Go.RowKit Go.Proofs
theorem own : ownKnob Try.prog.godebug = none := by kernel_rfl
theorem laid : laidOutB Try.prog = true := by kernel_rfl
theorem sh0 : shOf Try.prog 9 87 = some [.int .i64, .int .i64, .int .i64, .int .i64] := by kernel_rfl
theorem sh1 : shOf Try.prog 9 88 = some [.int .u64, .int .u64] := by kernel_rfl
theorem sh2 : shOf Try.prog 9 9 = some [.str] := by kernel_rfl
theorem sh3 : shOf Try.prog 9 9 = some [.str] := by kernel_rfl
theorem sh4 : shOf Try.prog 9 3 = some [.int .i64] := by kernel_rfl
theorem sh5 : shOf Try.prog 9 3 = some [.int .i64] := by kernel_rfl
theorem readable : ∀ t ∈ Try.f9.params.toList, Try.prog.readableRec t = true ∧ t < Try.prog.types.size := by
  have h : (Try.f9.params.toList.all fun t => Try.prog.readableRec t && Nat.blt t Try.prog.types.size) = true := by kernel_rfl
  intro t ht
  have := List.all_eq_true.1 h t ht
  simpa [Nat.blt_eq] using this
set_option maxRecDepth 100000 in
theorem lifted (os : Os) (started : os.Started) (H : Type) (enc : TypeId × Value → H) :
    ReturnsInHanded {} Try.checked os 9 .any (Rows.recordOrdersSpec.pre6 enc Try.prog Try.f9 Rows.recordOrdersRow.domain false) (Rows.recordOrdersSpec.post enc Try.prog Try.f9 false true false false) := by
  refine returnsInHanded_of_change (C := Try.checked) own started (by kernel_rfl) Try.func9
    (ChangeSpec.witness6 (enc := enc) (C := Try.checked) false ⟨#[], #[.agg #[.int .i64 0, .int .i64 0, .int .i64 0, .int .i64 0], .agg #[.int .u64 0, .int .u64 0], .string ⟨#[]⟩, .string ⟨#[]⟩, .int .i64 0, .int .i64 0], []⟩ 8 (by kernel_rfl) (by kernel_rfl) (by kernel_rfl) (by kernel_rfl)) ?_
  intro W base args ds gs before hval0 hW hcnd _
  have hval : ∀ (j : Nat) t v, Try.f9.params[j]? = some t → args[j]? = some v → Value.okWide Try.prog W .any base t v := hval0
  have hW' := hW
  obtain ⟨p, q, hA0, hV, rfl, hfz, hnd⟩ := hW
  have hA : DataW.TrodAll enc Try.prog W 0 (fun _ => true) true Try.f9.params.toList args.toList ds p := hA0
  rw [Try.params9] at hA hval
  obtain ⟨v0, vs0, d0, ds0, p0, q0, hargs, rfl, rfl, h0, r0⟩ := trodAll_cons hA
  obtain ⟨v1, vs1, d1, ds1, p1, q1, rfl, rfl, rfl, h1, r1⟩ := trodAll_cons r0
  obtain ⟨v2, vs2, d2, ds2, p2, q2, rfl, rfl, rfl, h2, r2⟩ := trodAll_cons r1
  obtain ⟨v3, vs3, d3, ds3, p3, q3, rfl, rfl, rfl, h3, r3⟩ := trodAll_cons r2
  obtain ⟨v4, vs4, d4, ds4, p4, q4, rfl, rfl, rfl, h4, r4⟩ := trodAll_cons r3
  obtain ⟨v5, vs5, d5, ds5, p5, q5, rfl, rfl, rfl, h5, r5⟩ := trodAll_cons r4
  obtain ⟨rfl, rfl, rfl⟩ := trodAll_nil r5
  obtain rfl : args = #[v0, v1, v2, v3, v4, v5] := by cases args; simp_all
  obtain ⟨rfl, rfl⟩ := trodVars_none hV
  obtain ⟨x0, o0, k0⟩ := arg_struct Try.underlying87 sh0 (hval 0 87 v0 rfl rfl) h0
  obtain ⟨x1, o1, k1⟩ := arg_array Try.underlying88 sh1 (hval 1 88 v1 rfl rfl) h1
  obtain ⟨x2, o2, k2⟩ := arg_cell sh2 (by intro fs h; rw [Try.underlying9] at h; cases h) (hval 2 9 v2 rfl rfl) h2
  obtain ⟨x3, o3, k3⟩ := arg_cell sh3 (by intro fs h; rw [Try.underlying9] at h; cases h) (hval 3 9 v3 rfl rfl) h3
  obtain ⟨x4, o4, k4⟩ := arg_cell sh4 (by intro fs h; rw [Try.underlying3] at h; cases h) (hval 4 3 v4 rfl rfl) h4
  obtain ⟨x5, o5, k5⟩ := arg_cell sh5 (by intro fs h; rw [Try.underlying3] at h; cases h) (hval 5 3 v5 rfl rfl) h5
  clear hA0 hval0
  simp only [List.append_nil] at hW'
  refine (law_true tabOk (f := 9) (avs := [.agg x0, .agg x1, x2, x3, x4, x5]) (by exact RepL.cons k0 (RepL.cons k1 (RepL.cons k2 (RepL.cons k3 (RepL.cons k4 (RepL.cons k5 (RepL.nil _))))))) (recordOrders_pc o0 o1 o2 o3 o4 o5)).mono fun e W2 ⟨he, hb⟩ => ?_
  subst he
  exact ⟨_, rfl, post_law (tb := 4) laid rfl readable (by kernel_rfl) (by kernel_rfl) hW' rfl hb⟩
theorem over : Rows.recordOrdersRow.holds Try.pinned (OpenSpec.ofChange Rows.recordOrdersSpec) :=
  OpenClaim.holds_of_wide 9 Try.f9 rfl rfl rfl rfl rfl rfl rfl ⟨rfl, rfl, rfl, rfl, rfl⟩ rfl rfl rfl rfl rfl (by kernel_rfl) Try.func9 (by kernel_rfl)
    (of_decide_eq_true (by kernel_rfl)) (by unfold Func.isWrapper; first | (rw [if_pos (by decide +kernel)]; kernel_rfl) | (rw [if_neg (by decide +kernel)]; exact ⟨rfl, rfl⟩))
    (fun os started H enc _ => lifted os started H enc)
theorem proved : Rows.RecordOrdersSaid := over
end Go.Proofs.Ytailfegmnkldoaa.recordOrders
