/- THE LAW NodeReads COMES TO true. -/
import Derived.Test.YtailfegmnkldoaaLRe2
set_option linter.unusedSimpArgs false
set_option linter.unusedVariables false
set_option linter.unusedSectionVars false
namespace Go.Proofs.Ytailfegmnkldoaa
open Go Go.Am Go.Slots Go.Nod
set_option maxHeartbeats 4000000
set_option maxRecDepth 10000
theorem nodeReads_pc {x0 x1 : AV} (h0 : OkS (.slice [.int .u64]) x0) (h1 : OkS (.int .i64) x1) : (cbL tab).pc 6 [x0, x1] = some (.plain (.bool true)) := by
  obtain ⟨xs, tk, rfl, hn, hx⟩ := ok_words h0
  obtain ⟨many, rfl, hmin, hmax⟩ := ok_int h1
  have hmin : -9223372036854775808 ≤ many := hmin
  have hmax : many ≤ 9223372036854775807 := hmax
  have hu := hf_u64A xs
  obtain ⟨u1, e1, f1⟩ := lend_sl 1 xs.length (encs u64A xs) tk
  refine pc_wp (fi := c6) rfl ?_ (by simp [c6]) (by decide) ?_
  · simp only [pcOn, List.map_cons, List.map_nil, hfL, hf_lend_sl, hf_lend_int, hf_lend_bool, hf_lend_str, hfL_append, Bool.and_self, Bool.and_true, Bool.true_and, c6, hu]
  unfold c6
  rw [List.map_cons, List.map_cons, List.map_nil, e1, lend_int]
  by_cases hlen : 70 < xs.length
  · simp (disch := omega) only [wk, avalE, aactE, evPE, boundE, asNat, bv_seql cellsEq_ii, bv_sneqd cellsEq_ii, readC, allOne, fillL, resE, tupled, ↓reduceIte, Nat.reduceEqDiff, Int.reduceEq, Int.reduceLT, Int.reduceLE, Nat.reduceAdd, Nat.reduceMul, Nat.reduceLT, Nat.reduceLeDiff, reduceCtorEq, works_px, purify, unownT, lend, unown, AV.hf]
  have hlp := fun H => lent_px xs.length (encs u64A xs) u1 H (by omega) (by rw [encs_length]; omega) hu (one_u64A xs)
  have hcl : hfL (encs u64A xs ++ [.int .u64 77]) = true := by rw [hfL_append, hu]; rfl
  have a1 := fun H => neach_px (.sl 1 xs.length (encs u64A xs ++ [.int .u64 77]) .ro) H
  have a2 := fun H => neach_ic 1 xs.length (encs u64A xs ++ [.int .u64 77]) .ro H
  have go : ∀ (nd : Nd) (L : List (Nat × (Int × Int))) (E : Env) (H : Heap), nd.ps = L.map (·.2) → L.length ≤ 100 → ((L = [] ∧ ∀ H, pcx (cbL tab) 29 [.sl 1 xs.length (encs u64A xs ++ [.int .u64 77]) .ro] H = some (.plain (.tup [nd0.av, .int .i64 210]))) ∨ ∃ (h : Hd) (ps : List (Int × Int)), h.u ∧ h.ok ∧ ps.length = 28 ∧ xs.length = 64 ∧ encs u64A xs = wordsA h ps [] ∧ L = eachL h.f 0 ps) →
      E 0 = .sl 1 xs.length (encs u64A xs) u1 → E 3 = .ptr 0 0 → E 4 = .ptr 1 0 → E 8 = .ptr 3 0 → E 11 = .ptr 5 0 → E 5 = .sl 1 xs.length (encs u64A xs ++ [.int .u64 77]) .ro → E 10 = .fn 68 [.ptr 4 0] → E 12 = .ptr 6 0 →
      H[0]? = some (.cells [.int .i64 many]) → H[1]? = some (.cells [.bool false]) → H[3]? = some (.cells [.int .i64 nd.v, .int .i64 nd.s, .int .u64 nd.l, .int .u64 nd.f, .int .i64 nd.y, slvR 2 pairA nd.ps]) → H[5]? = some (.cells [slvR 1 intA (L.map (fun p => (p.1 : Int)))]) → H[4]? = some (.cells [.sl 1 xs.length (encs u64A xs ++ [.int .u64 77]) .ro]) → H[6]? = some (.cells [.int .i64 0]) →
      Ret (cbL tab) none 145 (Am.Ends tab [.cell 4 1 false] fun o H => purify (some (o, H)) = some (.plain (.bool true))) [.code (.loop reLp), .blk 0, .code reTl] .normal E [] H :=
    fun nd L E H hnd hL hcase b0 b3 b4 b8 b11 b5 b10 b12 c0 c1 c3 c5 c4 c6 => reads_loop (by omega) hmin hmax hL hnd hcase b0 b3 b4 b8 b11 b5 b10 b12 c0 c1 c3 c5 c4 c6 (by omega)
  have hc : ((∀ H, pcx (cbL tab) 29 [.sl 1 xs.length (encs u64A xs ++ [.int .u64 77]) .ro] H = some (.plain (.tup [nd0.av, .int .i64 210]))) ∧ (∀ H, pcx (cbL tab) 31 [.sl 1 xs.length (encs u64A xs) u1] H = some (.plain (.tup [nd0.av, .int .i64 210]))) ∧
      (∀ H, pcx (cbL tab) 27 [.sl 1 xs.length (encs u64A xs ++ [.int .u64 77]) .ro] H = some (.plain (.int .i64 210))) ∧ (∀ H, pcx (cbL tab) 33 [.sl 1 xs.length (encs u64A xs) u1] H = some (.plain (.int .i64 210)))) ∨
      ∃ (h : Hd) (ps : List (Int × Int)), h.u ∧ h.ok ∧ ps.length = 28 ∧ xs.length = 64 ∧ encs u64A xs = wordsA h ps [] := by
    by_cases h64 : xs.length = 64
    case neg =>
      exact .inl ⟨fun H => of_len xs.length _ .ro H hn hcl h64, fun H => refof_len xs.length _ u1 H hn hu h64, fun H => nodecheck_len xs.length _ .ro H hn hcl h64, fun H => refcheck_len xs.length _ u1 H hn hu h64⟩
    obtain ⟨h, ps, k1, k2, k3, k4⟩ := words_at xs hx h64
    by_cases hok : h.ok
    · exact .inr ⟨h, ps, k3, hok, k2, h64, k1⟩
    have b1 := fun H => of_words h k3 ps k2 [.int .u64 77] .ro H rfl
    have b2 := fun H => refof_words h k3 ps k2 [] u1 H rfl
    have b3 := fun H => nodecheck_words h k3 ps k2 [.int .u64 77] .ro H rfl
    have b4 := fun H => refcheck_words h k3 ps k2 [] u1 H rfl
    rw [← words_rest, ← k1, ← h64] at b1 b3
    rw [← k1, ← h64] at b2 b4
    simp only [hok, if_false] at b1 b2 b3 b4
    exact .inl ⟨b1, b2, b3, b4⟩
  rcases hc with ⟨hof, hor, hck, hcr⟩ | ⟨h, ps, k3, hok, k2, h64, k1⟩
  · have sm := fun H => refsame_px nd0 nd0 (by decide) H
    simp only [and_self, decide_true] at sm
    rw [nd0_av] at sm hor
    have hof' := hof
    rw [nd0_av] at hof'
    simp (disch := omega) only [wk, avalE, aactE, evPE, boundE, asNat, bv_seql cellsEq_ii, bv_sneqd cellsEq_ii, readC, allOne, fillL, resE, tupled, ↓reduceIte, Nat.reduceEqDiff, Int.reduceEq, Int.reduceLT, Int.reduceLE, Nat.reduceAdd, Nat.reduceMul, Nat.reduceLT, Nat.reduceLeDiff, reduceCtorEq, hlp, hof', hor, hck, hcr, sm, num_px, a1, a2, runE_none l34, fn_nil, runG_un, List.append_nil]
    refine go nd0 [] _ _ rfl (by simp) (.inl ⟨rfl, hof⟩) ?_ ?_ ?_ ?_ ?_ ?_ ?_ ?_ rfl rfl rfl rfl rfl rfl <;> simp only [en, ↓reduceIte, Nat.reduceEqDiff]
  have b1 := fun H => of_words h k3 ps k2 [.int .u64 77] .ro H rfl
  have b2 := fun H => refof_words h k3 ps k2 [] u1 H rfl
  have b3 := fun H => nodecheck_words h k3 ps k2 [.int .u64 77] .ro H rfl
  have b4 := fun H => refcheck_words h k3 ps k2 [] u1 H rfl
  rw [← words_rest, ← k1, ← h64] at b1 b3
  rw [← k1, ← h64] at b2 b4
  simp only [hok, if_true] at b1 b2 b3 b4
  have hlen' := rdL_le h.f ps
  have sm := fun H => refsame_px (ndOf h ps) (ndOf h ps) (by show (rdL h.f ps).length ≤ 1000; omega) H
  simp only [and_self, decide_true] at sm
  have ew : encs u64A xs = .int .u64 h.m :: .int .u64 h.s :: .int .u64 h.l :: .int .u64 h.f :: .int .u64 h.y :: .int .u64 h.a :: .int .u64 h.b :: .int .u64 h.c :: encs pairA ps := by rw [k1, wordsA, List.append_nil]; rfl
  have rr : ∀ H, pcx (cbL tab) 35 [.int .u64 h.f, .sl 1 56 (encs pairA ps) .ro] H = some (.plain (.tup [slvR 2 pairA (rdL h.f ps), slvR 1 intA (atL h.f 0 ps)])) := fun H => by
    have := refread_px h.f ps [] .ro H (by omega) rfl
    rw [row, List.append_nil, k2] at this
    exact this
  have hmap := eachL_snd h.f 0 ps
  have hmap2 := eachL_fst h.f 0 ps
  have hLl : (eachL h.f 0 ps).length ≤ 100 := by
    have := congrArg List.length hmap
    rw [List.length_map] at this
    omega
  have go' := fun E H => go (ndOf h ps) (eachL h.f 0 ps) E H hmap.symm hLl (.inr ⟨h, ps, k3, hok, k2, h64, k1, rfl⟩)
  have eN : (ndOf h ps).av = .agg [.int .i64 (h.m - nmark), .int .i64 h.s, .int .u64 h.l, .int .u64 h.f, .int .i64 h.y, slvR 2 pairA (rdL h.f ps)] := rfl
  rw [hmap2] at go'
  rw [eN] at b1 b2 sm
  have so := slvR_one (sz := 2) (f := pairA) (rdL h.f ps)
  have sf2 := slvR_flat (sz := 1) (f := intA) (atL h.f 0 ps)
  have so2 := slvR_one (sz := 1) (f := intA) (atL h.f 0 ps)
  have hcs : (ndOf h ps).ps = rdL h.f ps := rfl
  have hd0 : ∀ r : List AV, List.drop 3 (encs u64A xs) = .int .u64 h.f :: .int .u64 h.y :: .int .u64 h.a :: .int .u64 h.b :: .int .u64 h.c :: encs pairA ps := fun _ => by rw [ew]; rfl
  have hd3 := hd0 []
  have hd8 : List.drop 8 (encs u64A xs) = encs pairA ps := by rw [ew]; rfl
  have hle : (encs u64A xs).length = xs.length := by rw [encs_length]; omega
  have e56 : xs.length - 8 = 56 := by omega
  have hps : (ndOf h ps).ps = rdL h.f ps := rfl
  rw [hps] at go'
  clear go
  generalize slvR 2 pairA (rdL h.f ps) = Q at *
  generalize slvR 1 intA (atL h.f 0 ps) = Q2 at *
  simp (disch := omega) only [wk, avalE, aactE, evPE, boundE, asNat, bv_seql cellsEq_ii, bv_sneqd cellsEq_ii, readC, allOne, fillL, resE, tupled, ↓reduceIte, Nat.reduceEqDiff, Int.reduceEq, Int.reduceLT, Int.reduceLE, Nat.reduceAdd, Nat.reduceMul, Nat.reduceLT, Nat.reduceLeDiff, reduceCtorEq, Int.reduceToNat, Int.reduceAdd, Int.reduceSub, Int.reduceMul, Int.reduceNeg, Nat.reduceSub, Nat.reduceDiv, hlp, b1, b2, b3, b4, sm, so, so2, sf2, num_px, a1, a2, runE_none l34, fn_nil, runG_un, hd3, hd8, e56, rr, List.append_nil]
  refine go' _ _ ?_ ?_ ?_ ?_ ?_ ?_ ?_ ?_ ?_ ?_ ?_ ?_ ?_ ?_ <;> first | rfl | (simp only [en, ↓reduceIte, Nat.reduceEqDiff]; done)
end Go.Proofs.Ytailfegmnkldoaa
