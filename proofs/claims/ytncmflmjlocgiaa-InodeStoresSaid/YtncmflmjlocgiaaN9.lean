/- THE WALK OF THE DOCUMENT'S Words. No condition but those stated. -/
import Derived.Test.YtncmflmjlocgiaaN8
set_option linter.unusedSimpArgs false
set_option linter.unusedVariables false
set_option linter.unusedSectionVars false
namespace Go.Proofs.Ytncmflmjlocgiaa
open Go Go.Am Go.Rec Go.Ino
set_option maxHeartbeats 4000000
set_option maxRecDepth 10000
theorem putF_two {n : Ino} (h : okI n) {x : Int} {l : List Int} (ht : tailI n = x :: l) : putF ((n.kind + 256 * n.links) :: x :: List.replicate 14 0) 2 l = wordsI n := by
  have h1 := put_words h
  rw [ht] at h1
  have : putF ((n.kind + 256 * n.links) :: List.replicate 15 0) 1 (x :: l) = putF ((n.kind + 256 * n.links) :: x :: List.replicate 14 0) 2 l := rfl
  rw [← this]; exact h1
theorem rwords14_px (n : Ino) (m : AV) (hm : MapR m n.map) (hn : n.map.length ≤ 1000) (hs : n.target.size ≤ 1000) (H : Heap) : pcx (cbL tab) 42 [inoA n m] H = some (.plain (wordsV n)) := by
  refine pcx_N rfl (pc_wp (fi := c42) rfl ?_ (by simp [c42]) (by decide) ?_)
  · simp only [pcOn, List.map_cons, List.map_nil, hfL, hf_lend_sl, hf_lend_int, hf_lend_bool, hf_lend_str, hfL_append, Bool.and_self, Bool.and_true, Bool.true_and, c42, lend_inoA hm, hf_inoA hm]
  unfold c42
  rw [List.map_cons, List.map_nil, lend_inoA hm, z10]
  have m1 := hm.one.1
  have m2 := hm.one.2
  have ck := fun H => rcheck_px n m hm hn hs H
  have hin : inoA n m = .agg (inoC n m) := rfl
  by_cases h : okI n
  case neg =>
    rw [checkI_no h] at ck
    rw [wordsV_no h]
    simp only [inoA] at ck ⊢
    simp (disch := omega) only [wk, avalE, aactE, evPE, boundE, asNat, bv_seql cellsEq_ii, bv_sneqd cellsEq_ii, readC, allOne, fillL, resE, tupled, ↓reduceIte, Nat.reduceEqDiff, Int.reduceEq, Int.reduceLT, Int.reduceLE, Nat.reduceAdd, Nat.reduceMul, Nat.reduceLT, Nat.reduceLeDiff, reduceCtorEq, m1, m2, ck, purify, unownT, AV.hf, unown, hfL, Tk.hf]
  rw [checkI_ok h] at ck
  rw [wordsV_ok h]
  have hkk := okI_kind h
  have hlk := h.1
  have hlk2 := h.2.1
  have v1 : IntKind.u64.wrap n.kind = n.kind := wrap_u64 (by omega) (by omega)
  have v2 : IntKind.u64.wrap n.links = n.links := wrap_u64 (by omega) (by omega)
  have z16 : repL 16 [AV.int .u64 0] = encs u64A (List.replicate 16 0) := rfl
  have s16 : List.drop 1 (encs u64A (List.replicate 16 0)) = encs u64A (List.replicate 15 0) := rfl
  have l16 : (encs u64A (List.replicate 16 0)).length = 16 := rfl
  have l15 : (encs u64A (List.replicate 15 0)).length = 15 := rfl
  have i16 : (0 : Int) < ((16 : Nat) : Int) := by decide
  have mn : madeN 1 8 [AV.int .u64 0] (.int .i64 16) (.int .i64 16) = some 16 := rfl
  have i0 : (0 : Int).toNat = 0 := rfl
  have i1 : (1 : Int).toNat = 1 := rfl
  have i2 : (2 : Int).toNat = 2 := rfl
  have i3 : (3 : Int).toNat = 3 := rfl
  have t1 : ∀ A, List.drop 1 (A :: encs u64A (List.replicate 15 0)) = encs u64A (List.replicate 15 0) := fun _ => rfl
  have k116 : (1 : Int) < ((16 : Nat) : Int) := by decide
  have k216 : (2 : Int) < ((16 : Nat) : Int) := by decide
  have k316 : (3 : Int) < ((16 : Nat) : Int) := by decide
  have w16 := wordsI_len h
  have pf : ∀ Hp : Heap, Hp[1]? = some (.cells (encs u64A (wordsI n))) → purify (some (.ret (.tup [.msl 1 1 0 16, .int .i64 0]), Hp)) = some (.plain (.tup [.sl 1 16 (encs u64A (wordsI n)) .ro, .int .i64 0])) := by
    intro Hp hp
    have c : 0 + 16 * 1 ≤ (encs u64A (wordsI n)).length ∧ hfL (encs u64A (wordsI n)) = true ∧ (AV.int .i64 0).hf = true := ⟨by rw [lenU, w16]; decide, hf_u64A _, rfl⟩
    have t : List.take (16 * 1) (List.drop 0 (encs u64A (wordsI n))) = encs u64A (wordsI n) := by rw [List.drop_zero, List.take_of_length_le (by rw [lenU, w16]; decide)]
    simp only [purify, hp, if_pos c, t]
  have c10 : ¬ (1 : Int) = 0 := by decide
  have c21 : ¬ (2 : Int) = 1 := by decide
  have c31 : ¬ (3 : Int) = 1 := by decide
  have c32 : ¬ (3 : Int) = 2 := by decide
  have c01 : ¬ (0 : Int) = 1 := by decide
  have c02 : ¬ (0 : Int) = 2 := by decide
  have c03 : ¬ (0 : Int) = 3 := by decide
  simp only [inoA] at ck ⊢
  obtain ⟨_, _, hb | hb | hb | hb⟩ := id h
  · have e : encs u64A (wordsI n) = .int .u64 (0 + 256 * n.links) :: encs u64A (List.replicate 15 0) := by
      have : wordsI n = (n.kind + 256 * n.links) :: List.replicate 15 0 := by simp [wordsI, tailI, hb.1]
      rw [this, hb.1]; rfl
    have k := hb.1
    rw [k] at v1
    have pf0 := pf [.cells [.int .i64 0, .int .i64 n.links, .int .i64 n.size, m, .int .i64 n.root, .int .i64 n.parent, .str n.target], .cells (encs u64A (wordsI n))] rfl
    rw [e] at pf0 ⊢
    rw [k] at ck
    simp (disch := omega) only [wk, avalE, aactE, evPE, boundE, asNat, bv_seql cellsEq_ii, bv_sneqd cellsEq_ii, readC, allOne, fillL, resE, tupled, ↓reduceIte, Nat.reduceEqDiff, Int.reduceEq, Int.reduceLT, Int.reduceLE, Nat.reduceAdd, Nat.reduceMul, Nat.reduceLT, Nat.reduceLeDiff, reduceCtorEq, m1, m2, ck, k, mn, z16, s16, l16, i16, i0, v1, v2, c01, c02, c03, pf0]
  · have k := hb.1
    have hs0 := hb.2.2.2.2.1
    have hs1 := hb.2.2.2.2.2.1
    have v3 : IntKind.u64.wrap n.size = n.size := wrap_u64 (by omega) (by omega)
    obtain ⟨hl10, hright⟩ := isSome_right (mapOk_some hb.2.2.2.2.2.2)
    obtain ⟨s, rest, tk, hme, hz, hr, htk⟩ := id hm
    have rw' : ∀ H, pcx (cbL tab) 76 [m] H = some (.plain (arrV (wordsE n.map))) := fun H => by rw [hme]; exact rwords_px n.map s rest tk hz hr hl10 hright H
    simp only [arrV] at rw'
    clear hme
    have wl := wordsE_len hl10
    have lw := lenU (wordsE n.map)
    have n10 : (wordsE []).length = 10 := rfl
    have lz := lenU (wordsE [])
    have dz := dr10 (wordsE []) rfl
    have ow := one_u64A (wordsE n.map)
    have tI : tailI n = n.size :: wordsE n.map := by simp [tailI, k]
    have p2 := putF_two h tI
    have d2 : List.drop 2 (AV.int .u64 (1 + 256 * n.links) :: encs u64A (List.replicate 15 0)) = encs u64A (List.replicate 14 0) := rfl
    have d3 : List.drop 1 (encs u64A (List.replicate 15 0)) = encs u64A (List.replicate 14 0) := rfl
    rw [k] at v1 ck p2
    simp (disch := omega) only [wk, avalE, aactE, evPE, boundE, asNat, bv_seql cellsEq_ii, bv_sneqd cellsEq_ii, readC, allOne, fillL, resE, tupled, ↓reduceIte, Nat.reduceEqDiff, Int.reduceEq, Int.reduceLT, Int.reduceLE, Nat.reduceAdd, Nat.reduceMul, Nat.reduceLT, Nat.reduceLeDiff, reduceCtorEq, m1, m2, ck, k, mn, z16, s16, l16, l15, i16, k116, i0, i1, v1, v2, v3, c10, d2, d3, rw', lw, wl, n10, lz, dz, ow, flat_arr, List.append_nil]
    refine loop_ind (fun (x : List Int × List Int × List Int) E df H => wordsE n.map = x.1 ++ x.2.1 ∧ putF x.2.2 (2 + x.1.length) x.2.1 = wordsI n ∧ x.2.2.length = 16 ∧ E 2 = .sl 0 0 [] .z ∧ E 4 = .msl 1 1 0 16 ∧ E 5 = .ptr 2 0 ∧ E 6 = .int .i64 (x.1.length : Nat) ∧ df = [] ∧
        H = [.cells [.int .i64 1, .int .i64 n.links, .int .i64 n.size, m, .int .i64 n.root, .int .i64 n.parent, .str n.target], .cells (encs u64A x.2.2), .cells (encs u64A (wordsE n.map))])
      (fun x => x.2.1.length) ([], wordsE n.map, (1 + 256 * n.links) :: n.size :: List.replicate 14 0) (by decide) (.inl rfl) ⟨rfl, p2, rfl, rfl, rfl, rfl, rfl, rfl, rfl⟩ ?_
    intro ⟨pre, suf, W⟩ E df H ih hP
    obtain ⟨a1, a2, a3, E2, E4, E5, E6, hdf, hH⟩ := hP
    dsimp only at a1 a2 a3 E6 hH
    subst hdf hH
    have hll : (wordsE n.map).length = pre.length + suf.length := by rw [a1, List.length_append]
    cases suf with
    | nil =>
      simp only [List.length_nil, Nat.add_zero] at hll
      have n1 : ¬ (pre.length : Int) < 10 := by omega
      have e : W = wordsI n := a2
      have pf0 := pf [.cells [.int .i64 1, .int .i64 n.links, .int .i64 n.size, m, .int .i64 n.root, .int .i64 n.parent, .str n.target], .cells (encs u64A (wordsI n)), .cells (encs u64A (wordsE n.map))] rfl
      rw [e]
      clear hll
      simp (disch := omega) only [wk, avalE, aactE, evPE, boundE, asNat, bv_seql cellsEq_ii, bv_sneqd cellsEq_ii, readC, allOne, fillL, resE, tupled, ↓reduceIte, Nat.reduceEqDiff, Int.reduceEq, Int.reduceLT, Int.reduceLE, Nat.reduceAdd, Nat.reduceMul, Nat.reduceLT, Nat.reduceLeDiff, reduceCtorEq, E2, E4, E5, E6, n1, pf0]
    | cons v r =>
      simp only [List.length_cons] at hll
      have n1 : (pre.length : Int) < 10 := by omega
      have g := getU1 pre v r
      rw [← a1] at g
      have su := setU W (2 + pre.length) v (by omega)
      have lW := lenU W
      have e1 : (2 : Int) + (pre.length : Int) = ((2 + pre.length : Nat) : Int) := by omega
      have n2 : ((2 + pre.length : Nat) : Int) < ((16 : Nat) : Int) := by omega
      simp (disch := omega) only [wk, avalE, aactE, evPE, boundE, asNat, bv_seql cellsEq_ii, bv_sneqd cellsEq_ii, readC, allOne, fillL, resE, tupled, ↓reduceIte, Nat.reduceEqDiff, Int.reduceEq, Int.reduceLT, Int.reduceLE, Nat.reduceAdd, Nat.reduceMul, Nat.reduceLT, Nat.reduceLeDiff, reduceCtorEq, E2, E4, E5, E6, n1, n2, g, e1, su, lW, a3, Nat.zero_add]
      refine ih (pre ++ [v], r, W.set (2 + pre.length) v) _ _ _ (by simp) ?_
      refine ⟨by simp [a1], ?_, by rw [List.length_set]; exact a3, by simp only [en, ↓reduceIte, Nat.reduceEqDiff, E2], by simp only [en, ↓reduceIte, Nat.reduceEqDiff, E4], by simp only [en, ↓reduceIte, Nat.reduceEqDiff, E5], by simp only [en, ↓reduceIte, Nat.reduceEqDiff], rfl, rfl⟩
      rw [← a2, putF]
      dsimp only
      rw [List.length_append]; rfl
  · have k := hb.1
    obtain ⟨_, _, _, _, b1, b2, b3, b4⟩ := hb
    have v3 : IntKind.u64.wrap n.root = n.root := wrap_u64 (by omega) (by omega)
    have v4 : IntKind.u64.wrap n.parent = n.parent := wrap_u64 (by omega) (by omega)
    have e : encs u64A (wordsI n) = .int .u64 (2 + 256 * n.links) :: .int .u64 0 :: .int .u64 n.root :: .int .u64 n.parent :: encs u64A (List.replicate 12 0) := by
      have : wordsI n = (n.kind + 256 * n.links) :: 0 :: n.root :: n.parent :: List.replicate 12 0 := by simp [wordsI, tailI, k]
      rw [this, k]; rfl
    have s16' : encs u64A (List.replicate 16 0) = .int .u64 0 :: .int .u64 0 :: .int .u64 0 :: .int .u64 0 :: encs u64A (List.replicate 12 0) := rfl
    have l12 : (encs u64A (List.replicate 12 0)).length = 12 := rfl
    have pf0 := pf [.cells [.int .i64 2, .int .i64 n.links, .int .i64 n.size, m, .int .i64 n.root, .int .i64 n.parent, .str n.target], .cells (encs u64A (wordsI n))] rfl
    rw [e] at pf0 ⊢
    rw [k] at v1 ck
    rw [s16'] at z16
    simp (disch := omega) only [wk, avalE, aactE, evPE, boundE, asNat, bv_seql cellsEq_ii, bv_sneqd cellsEq_ii, readC, allOne, fillL, resE, tupled, ↓reduceIte, Nat.reduceEqDiff, Int.reduceEq, Int.reduceLT, Int.reduceLE, Nat.reduceAdd, Nat.reduceMul, Nat.reduceLT, Nat.reduceLeDiff, reduceCtorEq, m1, m2, ck, k, mn, z16, l12, i16, k216, k316, i0, i2, i3, v1, v2, v3, v4, c21, fv1, pf0]
  · have k := hb.1
    obtain ⟨_, _, _, _, _, b1, b2, b3⟩ := hb
    have hsd := size_data n.target
    have hne0 : n.target.data.toList ≠ [] := fun h => by rw [h] at hsd; simp at hsd; omega
    have v3 : IntKind.u64.wrap (n.target.size : Int) = (n.target.size : Int) := wrap_u64 (by omega) (by omega)
    have lp := fun H => rlay_px n.target.data.toList 1 .ro H (by omega) rfl
    rw [prRow_ne (layM_ne_nil hne0)] at lp
    rw [hsd, ← bytesA_encs] at lp
    have ll := layM_len n.target.data.toList
    rw [hsd] at ll
    have tI : tailI n = (n.target.size : Int) :: layM n.target.data.toList := by simp [tailI, k]
    have p2 := putF_two h tI
    have s1 : (n.target.size : Nat) ≤ 70368744177664 := by omega
    have d3 : List.drop 1 (encs u64A (List.replicate 15 0)) = encs u64A (List.replicate 14 0) := rfl
    rw [k] at v1 ck p2
    simp (disch := omega) only [wk, avalE, aactE, evPE, boundE, asNat, bv_seql cellsEq_ii, bv_sneqd cellsEq_ii, readC, allOne, fillL, resE, tupled, ↓reduceIte, Nat.reduceEqDiff, Int.reduceEq, Int.reduceLT, Int.reduceLE, Nat.reduceAdd, Nat.reduceMul, Nat.reduceLT, Nat.reduceLeDiff, reduceCtorEq, m1, m2, ck, k, mn, z16, s16, l16, l15, i16, k116, i0, i1, v1, v2, v3, c31, c32, d3, s1, lp]
    refine loop_ind (fun (x : List Int × List Int × List Int) E df H => layM n.target.data.toList = x.1 ++ x.2.1 ∧ putF x.2.2 (2 + x.1.length) x.2.1 = wordsI n ∧ x.2.2.length = 16 ∧ E 4 = .msl 1 1 0 16 ∧ (∃ tk, E 7 = .sl 1 (layM n.target.data.toList).length (encs u64A (layM n.target.data.toList)) tk) ∧ E 8 = .int .i64 (x.1.length : Nat) ∧ df = [] ∧
        H = [.cells [.int .i64 3, .int .i64 n.links, .int .i64 n.size, m, .int .i64 n.root, .int .i64 n.parent, .str n.target], .cells (encs u64A x.2.2), .tok 1])
      (fun x => x.2.1.length) ([], layM n.target.data.toList, (3 + 256 * n.links) :: (n.target.size : Int) :: List.replicate 14 0) (by decide) (.inl rfl) ⟨rfl, p2, rfl, rfl, ⟨_, rfl⟩, rfl, rfl, rfl⟩ ?_
    intro ⟨pre, suf, W⟩ E df H ih hP
    obtain ⟨a1, a2, a3, E4, ⟨tk, E7⟩, E8, hdf, hH⟩ := hP
    dsimp only at a1 a2 a3 E8 hH
    subst hdf hH
    have hll : (layM n.target.data.toList).length = pre.length + suf.length := by rw [a1, List.length_append]
    cases suf with
    | nil =>
      simp only [List.length_nil, Nat.add_zero] at hll
      have e : W = wordsI n := a2
      have pf0 := pf [.cells [.int .i64 3, .int .i64 n.links, .int .i64 n.size, m, .int .i64 n.root, .int .i64 n.parent, .str n.target], .cells (encs u64A (wordsI n)), .tok 1] rfl
      rw [e]
      simp (disch := omega) only [wk, avalE, aactE, evPE, boundE, asNat, bv_seql cellsEq_ii, bv_sneqd cellsEq_ii, readC, allOne, fillL, resE, tupled, ↓reduceIte, Nat.reduceEqDiff, Int.reduceEq, Int.reduceLT, Int.reduceLE, Nat.reduceAdd, Nat.reduceMul, Nat.reduceLT, Nat.reduceLeDiff, reduceCtorEq, E4, E7, E8, hll, pf0]
    | cons v r =>
      simp only [List.length_cons] at hll
      have n1 : (pre.length : Int) < ((layM n.target.data.toList).length : Int) := by omega
      have d := wdrop pre v r []
      rw [← a1, List.append_nil] at d
      have su := setU W (2 + pre.length) v (by omega)
      have lW := lenU W
      have e1 : (2 : Int) + (pre.length : Int) = ((2 + pre.length : Nat) : Int) := by omega
      have n2 : ((2 + pre.length : Nat) : Int) < ((16 : Nat) : Int) := by omega
      simp (disch := omega) only [wk, avalE, aactE, evPE, boundE, asNat, bv_seql cellsEq_ii, bv_sneqd cellsEq_ii, readC, allOne, fillL, resE, tupled, ↓reduceIte, Nat.reduceEqDiff, Int.reduceEq, Int.reduceLT, Int.reduceLE, Nat.reduceAdd, Nat.reduceMul, Nat.reduceLT, Nat.reduceLeDiff, reduceCtorEq, E4, E7, E8, n1, n2, d, e1, su, lW, a3, Nat.zero_add]
      refine ih (pre ++ [v], r, W.set (2 + pre.length) v) _ _ _ (by simp) ?_
      refine ⟨by simp [a1], ?_, by rw [List.length_set]; exact a3, by simp only [en, ↓reduceIte, Nat.reduceEqDiff, E4], ⟨tk, by simp only [en, ↓reduceIte, Nat.reduceEqDiff, E7]⟩, by simp only [en, ↓reduceIte, Nat.reduceEqDiff], rfl, rfl⟩
      rw [← a2, putF]
      dsimp only
      rw [List.length_append]; rfl
end Go.Proofs.Ytncmflmjlocgiaa
