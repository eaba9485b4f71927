/- THE WALK OF THE DOCUMENT'S Of. No condition but those stated. -/
import Derived.Test.YtncmflmjlocgiaaN11
set_option linter.unusedSimpArgs false
set_option linter.unusedVariables false
set_option linter.unusedSectionVars false
namespace Go.Proofs.Ytncmflmjlocgiaa
open Go Go.Am Go.Rec Go.Ino
set_option maxHeartbeats 4000000
set_option maxRecDepth 10000
theorem wordE_small {x : Ext} (h : rightM x) : wordE x ≤ 4611686018427387904 := by
  obtain ⟨x1, x2, x3, x4, x5, x6, x7⟩ := h
  unfold wordE
  omega
theorem wordsE_small {l : List Ext} (h : ∀ x ∈ l, rightM x) : ∀ w ∈ wordsE l, w ≤ 4611686018427387904 := by
  intro w hw
  rcases List.mem_append.1 hw with hw | hw
  · obtain ⟨x, hx, rfl⟩ := List.mem_map.1 hw
    exact wordE_small (h x hx)
  · have := (List.mem_replicate.1 hw).2; omega
theorem good_bounds {w0 w1 w2 w3 : Int} {r : List Int} (h : goodI w0 w1 w2 w3 r) : w0 < 4294967296 ∧ w1 ≤ 65536 ∧ (w0 % 256 ≠ 3 → w2 ≤ 4611686018427387904 ∧ w3 ≤ 4611686018427387904) := by
  obtain ⟨h1, h2⟩ := h
  have hk := okI_kind h1
  have l0 := h1.1
  have l1 := h1.2.1
  have hkind : (decI w0 w1 w2 w3 r).kind = w0 % 256 := rfl
  generalize decI w0 w1 w2 w3 r = n at h1 h2 hk l0 l1 hkind
  unfold wordsI at h2
  obtain ⟨_, _, hb | hb | hb | hb⟩ := h1
  · have ht : tailI n = [] := by simp [tailI, hb.1]
    rw [ht] at h2
    simp only [List.nil_append, List.length_nil, Nat.sub_zero, List.replicate_succ, List.cons.injEq] at h2
    obtain ⟨a, b, c, d, _⟩ := h2
    exact ⟨by omega, by omega, fun _ => ⟨by omega, by omega⟩⟩
  · have ht : tailI n = n.size :: wordsE n.map := by simp [tailI, hb.1]
    obtain ⟨hl, hr⟩ := isSome_right (mapOk_some hb.2.2.2.2.2.2)
    have hl2 := wordsE_len hl
    have sm := wordsE_small hr
    rw [ht] at h2
    generalize wordsE n.map = E at h2 hl2 sm
    match E, hl2 with
    | a :: b :: E, _ =>
      simp only [List.cons_append, List.cons.injEq] at h2
      obtain ⟨q0, q1, q2, q3, _⟩ := h2
      have s2 := sm a (by simp)
      have s3 := sm b (by simp)
      have := hb.2.2.2.2.2.1
      exact ⟨by omega, by omega, fun _ => ⟨by omega, by omega⟩⟩
  · have ht : tailI n = [0, n.root, n.parent] := by simp [tailI, hb.1]
    rw [ht] at h2
    simp only [List.cons_append, List.cons.injEq] at h2
    obtain ⟨q0, q1, q2, q3, _⟩ := h2
    obtain ⟨_, _, _, _, b1, b2, b3, b4⟩ := hb
    exact ⟨by omega, by omega, fun _ => ⟨by omega, by omega⟩⟩
  · have ht : tailI n = (n.target.size : Int) :: layM n.target.data.toList := by simp [tailI, hb.1]
    rw [ht] at h2
    simp only [List.cons_append, List.cons.injEq] at h2
    obtain ⟨q0, q1, _⟩ := h2
    have := hb.2.2.2.2.2.2.1
    exact ⟨by omega, by omega, fun h => absurd (by omega) h⟩
theorem rofI_no (w : List Int) (rest : List AV) (s : Nat) (tk : Tk) (H : Heap) (hn : w.length ≤ 1000) (h16 : w.length ≠ 16) (hr : hfL rest = true) :
    pcx (cbL tab) 34 [.sl s w.length (encs u64A w ++ rest) tk] H = some (.plain (ofIV zeroI 240)) := by
  obtain ⟨u1, e1, f1⟩ := lend_sl s w.length (encs u64A w ++ rest) tk
  refine pcx_N rfl (pc_wp (fi := c34) rfl ?_ (by simp [c34]) (by decide) ?_)
  · simp only [pcOn, List.map_cons, List.map_nil, hfL, hf_lend_sl, hf_lend_int, hf_lend_bool, hf_lend_str, hfL_append, Bool.and_self, Bool.and_true, Bool.true_and, c34, hf_u64A, hr]
  unfold c34
  rw [List.map_cons, List.map_nil, e1]
  have h16' : ¬ (w.length : Int) = 16 := by omega
  have pz := fun H => purify_ofI zeroI 240 H
  have ez : inoA zeroI (mapV zeroI.map) = .agg [.int .i64 0, .int .i64 0, .int .i64 0, .sl 0 0 [] .z, .int .i64 0, .int .i64 0, .str ⟨#[]⟩] := rfl
  rw [ez] at pz
  simp (disch := omega) only [wk, avalE, aactE, evPE, boundE, asNat, bv_seql cellsEq_ii, bv_sneqd cellsEq_ii, readC, allOne, fillL, resE, tupled, ↓reduceIte, Nat.reduceEqDiff, Int.reduceEq, Int.reduceLT, Int.reduceLE, Nat.reduceAdd, Nat.reduceMul, Nat.reduceLT, Nat.reduceLeDiff, reduceCtorEq, h16', pz]
theorem rofI_px (w0 w1 w2 w3 : Int) (r : List Int) (rest : List AV) (tk : Tk) (H : Heap) (hw : WOk w0 w1 w2 w3 r rest) :
    pcx (cbL tab) 34 [.sl 1 16 (wlit w0 w1 w2 w3 r rest) tk] H = some (.plain (ofIV (ofI w0 w1 w2 w3 r).1 (ofI w0 w1 w2 w3 r).2)) := by
  obtain ⟨u1, e1, f1⟩ := lend_sl 1 16 (wlit w0 w1 w2 w3 r rest) tk
  refine pcx_N rfl (pc_wp (fi := c34) rfl ?_ (by simp [c34]) (by decide) ?_)
  · rw [← wlit_eq]; simp only [pcOn, List.map_cons, List.map_nil, hfL, hf_lend_sl, hf_lend_int, hf_lend_bool, hf_lend_str, hfL_append, Bool.and_self, Bool.and_true, Bool.true_and, c34, hf_u64A, hw.hf]
  unfold c34
  rw [List.map_cons, List.map_nil, e1, z10]
  have pz := fun e H => purify_ofI zeroI e H
  have ez : inoA zeroI (mapV zeroI.map) = .agg [.int .i64 0, .int .i64 0, .int .i64 0, .sl 0 0 [] .z, .int .i64 0, .int .i64 0, .str ⟨#[]⟩] := rfl
  have i16 : ((16 : Nat) : Int) = 16 := rfl
  have i0 : (0 : Int).toNat = 0 := rfl
  have i1 : (1 : Int).toNat = 1 := rfl
  have i2 : (2 : Int).toNat = 2 := rfl
  have i3 : (3 : Int).toNat = 3 := rfl
  have ro : ofI w0 w1 w2 w3 r = if w0 = 0 then (zeroI, 0) else if goodI w0 w1 w2 w3 r then (decI w0 w1 w2 w3 r, 0) else (zeroI, 240) := rfl
  rw [ez] at pz
  obtain ⟨hl12, ⟨a0, a1⟩, ⟨b0, b1⟩, ⟨c0, c1⟩, ⟨d0, d1⟩, hur, hrf⟩ := id hw
  by_cases h0 : w0 = 0
  · rw [if_pos h0] at ro
    rw [ro]
    subst h0
    unfold wlit
    simp (disch := omega) only [wk, avalE, aactE, evPE, boundE, asNat, bv_seql cellsEq_ii, bv_sneqd cellsEq_ii, readC, allOne, fillL, resE, tupled, ↓reduceIte, Nat.reduceEqDiff, Int.reduceEq, Int.reduceLT, Int.reduceLE, Nat.reduceAdd, Nat.reduceMul, Nat.reduceLT, Nat.reduceLeDiff, reduceCtorEq, i16, i0, pz]
  rw [if_neg h0] at ro
  have v1 : IntKind.i64.wrap (w0 % 256) = w0 % 256 := wrap_i64 (by omega) (by omega)
  by_cases g0 : w0 < 4294967296
  case neg =>
    have hg : ¬ goodI w0 w1 w2 w3 r := fun h => g0 (good_bounds h).1
    rw [if_neg hg] at ro
    rw [ro]
    have g0' : 4294967296 ≤ w0 := by omega
    clear hw hg
    unfold wlit
    by_cases k3 : w0 % 256 = 3 <;> simp (disch := omega) only [wk, avalE, aactE, evPE, boundE, asNat, bv_seql cellsEq_ii, bv_sneqd cellsEq_ii, readC, allOne, fillL, resE, tupled, ↓reduceIte, Nat.reduceEqDiff, Int.reduceEq, Int.reduceLT, Int.reduceLE, Nat.reduceAdd, Nat.reduceMul, Nat.reduceLT, Nat.reduceLeDiff, reduceCtorEq, i16, i0, i1, i2, i3, h0, v1, g0', k3, pz]
  have g0' : ¬ 4294967296 ≤ w0 := by omega
  by_cases g1 : w1 ≤ 65536
  case neg =>
    have hg : ¬ goodI w0 w1 w2 w3 r := fun h => g1 (good_bounds h).2.1
    rw [if_neg hg] at ro
    rw [ro]
    have g1' : 65536 < w1 := by omega
    clear hw hg
    unfold wlit
    by_cases k3 : w0 % 256 = 3 <;> simp (disch := omega) only [wk, avalE, aactE, evPE, boundE, asNat, bv_seql cellsEq_ii, bv_sneqd cellsEq_ii, readC, allOne, fillL, resE, tupled, ↓reduceIte, Nat.reduceEqDiff, Int.reduceEq, Int.reduceLT, Int.reduceLE, Nat.reduceAdd, Nat.reduceMul, Nat.reduceLT, Nat.reduceLeDiff, reduceCtorEq, i16, i0, i1, i2, i3, h0, v1, g0', g1', k3, pz]
  have g1' : ¬ 65536 < w1 := by omega
  have hlk : w0 / 256 % 16777216 = w0 / 256 := by omega
  have v2 : IntKind.i64.wrap (w0 / 256) = w0 / 256 := wrap_i64 (by omega) (by omega)
  have wp := fun H => rwords14_px (decI w0 w1 w2 w3 r) (mapV (decI w0 w1 w2 w3 r).map) (MapR.of _) (by
    simp only [decI]
    split
    · have := readE_len (w10 w2 w3 r)
      have := hw.w10.1
      omega
    · simp) (by
    simp only [decI]
    split
    · simp only [textI, ByteArray.size, List.size_toArray, List.length_take, bytM_len, List.length_cons, hl12]
      omega
    · decide) H
  have pd := fun H => purify_ofI (decI w0 w1 w2 w3 r) 0 H
  have l16 : (w0 :: w1 :: w2 :: w3 :: r).length = 16 := by simp [hl12]
  have smok : okI (decI w0 w1 w2 w3 r) → ∀ H, pcx (cbL tab) 20 [.sl 1 16 (encs u64A (wordsI (decI w0 w1 w2 w3 r))) .ro, .sl 1 16 (.int .u64 w0 :: .int .u64 w1 :: .int .u64 w2 :: .int .u64 w3 :: (encs u64A r ++ rest)) u1] H = some (.plain (.bool (decide (wordsI (decI w0 w1 w2 w3 r) = w0 :: w1 :: w2 :: w3 :: r)))) := by
    intro ho H
    have h := same_px (wordsI (decI w0 w1 w2 w3 r)) (w0 :: w1 :: w2 :: w3 :: r) [] rest 1 1 .ro u1 H (by rw [wordsI_len ho]; decide) (by rw [l16]; decide) (fun _ => rfl) (fun _ => rfl) rfl hrf
    rw [wordsI_len ho, l16, List.append_nil] at h
    exact h
  simp only [inoA] at wp pd
  by_cases k3 : w0 % 256 = 3
  · have ed : decI w0 w1 w2 w3 r = ⟨3, w0 / 256, 0, [], 0, 0, textI w1 w2 w3 r⟩ := by simp [decI, k3, hlk]
    have bv := fun H => rbytes_px (w2 :: w3 :: r) rest 1 .ro H (by simp [hl12]) rfl hrf (fun x hx => by
      rcases List.mem_cons.1 hx with rfl | hx
      · exact ⟨c0, c1⟩
      rcases List.mem_cons.1 hx with rfl | hx
      · exact ⟨d0, d1⟩
      exact hur x hx)
    have l14 : (w2 :: w3 :: r).length = 14 := by simp [hl12]
    have eb : encs u64A (w2 :: w3 :: r) ++ rest = .int .u64 w2 :: .int .u64 w3 :: (encs u64A r ++ rest) := rfl
    rw [l14, eb] at bv
    have lB : (bytM (w2 :: w3 :: r)).length = 112 := by rw [bytM_len, l14]
    have lC : (encs byA (bytM (w2 :: w3 :: r))).length = 112 := by rw [encs_length (k := 1), lB]
    have nB : bytM (w2 :: w3 :: r) ≠ [] := by intro e; rw [e] at lB; cases lB
    have pB : prRow 1 byA (bytM (w2 :: w3 :: r)) = .fresh 1 112 (encs byA (bytM (w2 :: w3 :: r))) := by rw [prRow_ne nB, lB]
    rw [pB] at bv
    have i14 : 16 - 2 = 14 := rfl
    have lr : (encs u64A r).length = 12 := by rw [lenU, hl12]
    have c30 : ¬ (3 : Int) = 1 := by decide
    have c32 : ¬ (3 : Int) = 2 := by decide
    have eT : ByteArray.mk (List.toArray ((bytM (w2 :: w3 :: r)).take w1.toNat)) = textI w1 w2 w3 r := rfl
    have hnil : mapV [] = .sl 0 0 [] .z := rfl
    by_cases m1 : 112 < w1
    · have hg : ¬ goodI w0 w1 w2 w3 r := by
        intro h
        obtain ⟨q1, q2⟩ := h
        rw [ed] at q1 q2
        obtain ⟨_, _, s1, s2, _⟩ := (okI_3 rfl).1 q1
        have ht : tailI ⟨3, w0 / 256, 0, [], 0, 0, textI w1 w2 w3 r⟩ = ((textI w1 w2 w3 r).size : Int) :: layM (textI w1 w2 w3 r).data.toList := rfl
        unfold wordsI at q2
        rw [ht] at q2
        simp only [List.cons_append, List.cons.injEq] at q2
        have := q2.2.1
        simp only at s1 s2
        omega
      rw [if_neg hg] at ro
      rw [ro]
      clear hg hw
      unfold wlit
      by_cases g2 : 4611686018427387904 < w2
      · simp (disch := omega) only [wk, avalE, aactE, evPE, boundE, asNat, bv_seql cellsEq_ii, bv_sneqd cellsEq_ii, readC, allOne, fillL, resE, tupled, ↓reduceIte, Nat.reduceEqDiff, Int.reduceEq, Int.reduceLT, Int.reduceLE, Nat.reduceAdd, Nat.reduceMul, Nat.reduceLT, Nat.reduceLeDiff, reduceCtorEq, i16, i0, i1, i2, i3, h0, v1, g0', g1', v2, k3, c30, c32, i14, lr, bv, m1, g2, pz]
      by_cases g3 : 4611686018427387904 < w3 <;> simp (disch := omega) only [wk, avalE, aactE, evPE, boundE, asNat, bv_seql cellsEq_ii, bv_sneqd cellsEq_ii, readC, allOne, fillL, resE, tupled, ↓reduceIte, Nat.reduceEqDiff, Int.reduceEq, Int.reduceLT, Int.reduceLE, Nat.reduceAdd, Nat.reduceMul, Nat.reduceLT, Nat.reduceLeDiff, reduceCtorEq, i16, i0, i1, i2, i3, h0, v1, g0', g1', v2, k3, c30, c32, i14, lr, bv, m1, g2, g3, pz]
    have mle : w1.toNat ≤ 112 := by omega
    have hsl : ∀ g, (if w1.toNat = 112 then AV.sl 1 112 (encs byA (bytM (w2 :: w3 :: r))) (.own g) else .sl 1 w1.toNat (encs byA (bytM (w2 :: w3 :: r))) .ro) = .sl 1 w1.toNat (encs byA (bytM (w2 :: w3 :: r))) (if w1.toNat = 112 then .own g else .ro) := by
      intro g
      split
      · rename_i h; rw [h]
      · rfl
    unfold wlit
    by_cases g2 : 4611686018427387904 < w2
    · skip
      by_cases ho : okI (decI w0 w1 w2 w3 r)
      case neg =>
        have hg : ¬ goodI w0 w1 w2 w3 r := fun h => ho h.1
        rw [if_neg hg] at ro
        rw [ro]
        rw [wordsV_no ho, ed] at wp
        simp only [hnil] at wp
        clear hg ho hw
        simp (disch := omega) only [wk, avalE, aactE, evPE, boundE, asNat, bv_seql cellsEq_ii, bv_sneqd cellsEq_ii, readC, allOne, fillL, resE, tupled, ↓reduceIte, Nat.reduceEqDiff, Int.reduceEq, Int.reduceLT, Int.reduceLE, Nat.reduceAdd, Nat.reduceMul, Nat.reduceLT, Nat.reduceLeDiff, reduceCtorEq, i16, i0, i1, i2, i3, h0, v1, g0', g1', v2, k3, c30, c32, i14, lr, bv, m1, b0, mle, lC, hsl, unb, eT, hnil, true_or, Nat.le_add_left, Nat.le_add_right, g2, wp, pz]
      have sm := smok ho
      rw [wordsV_ok ho] at wp
      by_cases he : wordsI (decI w0 w1 w2 w3 r) = w0 :: w1 :: w2 :: w3 :: r
      case neg =>
        have hg : ¬ goodI w0 w1 w2 w3 r := fun h => he h.2
        rw [if_neg hg] at ro
        rw [ro]
        rw [decide_eq_false he] at sm
        rw [ed] at wp sm
        simp only [hnil] at wp
        clear hg ho hw he
        simp (disch := omega) only [wk, avalE, aactE, evPE, boundE, asNat, bv_seql cellsEq_ii, bv_sneqd cellsEq_ii, readC, allOne, fillL, resE, tupled, ↓reduceIte, Nat.reduceEqDiff, Int.reduceEq, Int.reduceLT, Int.reduceLE, Nat.reduceAdd, Nat.reduceMul, Nat.reduceLT, Nat.reduceLeDiff, reduceCtorEq, i16, i0, i1, i2, i3, h0, v1, g0', g1', v2, k3, c30, c32, i14, lr, bv, m1, b0, mle, lC, hsl, unb, eT, hnil, true_or, Nat.le_add_left, Nat.le_add_right, g2, wp, sm, pz]
      have hg : goodI w0 w1 w2 w3 r := ⟨ho, he⟩
      rw [if_pos hg] at ro
      rw [ro]
      rw [decide_eq_true he] at sm
      rw [ed] at wp sm pd ⊢
      simp only [hnil] at wp pd
      clear hg ho hw he
      simp (disch := omega) only [wk, avalE, aactE, evPE, boundE, asNat, bv_seql cellsEq_ii, bv_sneqd cellsEq_ii, readC, allOne, fillL, resE, tupled, ↓reduceIte, Nat.reduceEqDiff, Int.reduceEq, Int.reduceLT, Int.reduceLE, Nat.reduceAdd, Nat.reduceMul, Nat.reduceLT, Nat.reduceLeDiff, reduceCtorEq, i16, i0, i1, i2, i3, h0, v1, g0', g1', v2, k3, c30, c32, i14, lr, bv, m1, b0, mle, lC, hsl, unb, eT, hnil, true_or, Nat.le_add_left, Nat.le_add_right, g2, wp, sm, pd]
    by_cases g3 : 4611686018427387904 < w3
    · skip
      by_cases ho : okI (decI w0 w1 w2 w3 r)
      case neg =>
        have hg : ¬ goodI w0 w1 w2 w3 r := fun h => ho h.1
        rw [if_neg hg] at ro
        rw [ro]
        rw [wordsV_no ho, ed] at wp
        simp only [hnil] at wp
        clear hg ho hw
        simp (disch := omega) only [wk, avalE, aactE, evPE, boundE, asNat, bv_seql cellsEq_ii, bv_sneqd cellsEq_ii, readC, allOne, fillL, resE, tupled, ↓reduceIte, Nat.reduceEqDiff, Int.reduceEq, Int.reduceLT, Int.reduceLE, Nat.reduceAdd, Nat.reduceMul, Nat.reduceLT, Nat.reduceLeDiff, reduceCtorEq, i16, i0, i1, i2, i3, h0, v1, g0', g1', v2, k3, c30, c32, i14, lr, bv, m1, b0, mle, lC, hsl, unb, eT, hnil, true_or, Nat.le_add_left, Nat.le_add_right, g2, g3, wp, pz]
      have sm := smok ho
      rw [wordsV_ok ho] at wp
      by_cases he : wordsI (decI w0 w1 w2 w3 r) = w0 :: w1 :: w2 :: w3 :: r
      case neg =>
        have hg : ¬ goodI w0 w1 w2 w3 r := fun h => he h.2
        rw [if_neg hg] at ro
        rw [ro]
        rw [decide_eq_false he] at sm
        rw [ed] at wp sm
        simp only [hnil] at wp
        clear hg ho hw he
        simp (disch := omega) only [wk, avalE, aactE, evPE, boundE, asNat, bv_seql cellsEq_ii, bv_sneqd cellsEq_ii, readC, allOne, fillL, resE, tupled, ↓reduceIte, Nat.reduceEqDiff, Int.reduceEq, Int.reduceLT, Int.reduceLE, Nat.reduceAdd, Nat.reduceMul, Nat.reduceLT, Nat.reduceLeDiff, reduceCtorEq, i16, i0, i1, i2, i3, h0, v1, g0', g1', v2, k3, c30, c32, i14, lr, bv, m1, b0, mle, lC, hsl, unb, eT, hnil, true_or, Nat.le_add_left, Nat.le_add_right, g2, g3, wp, sm, pz]
      have hg : goodI w0 w1 w2 w3 r := ⟨ho, he⟩
      rw [if_pos hg] at ro
      rw [ro]
      rw [decide_eq_true he] at sm
      rw [ed] at wp sm pd ⊢
      simp only [hnil] at wp pd
      clear hg ho hw he
      simp (disch := omega) only [wk, avalE, aactE, evPE, boundE, asNat, bv_seql cellsEq_ii, bv_sneqd cellsEq_ii, readC, allOne, fillL, resE, tupled, ↓reduceIte, Nat.reduceEqDiff, Int.reduceEq, Int.reduceLT, Int.reduceLE, Nat.reduceAdd, Nat.reduceMul, Nat.reduceLT, Nat.reduceLeDiff, reduceCtorEq, i16, i0, i1, i2, i3, h0, v1, g0', g1', v2, k3, c30, c32, i14, lr, bv, m1, b0, mle, lC, hsl, unb, eT, hnil, true_or, Nat.le_add_left, Nat.le_add_right, g2, g3, wp, sm, pd]
    by_cases ho : okI (decI w0 w1 w2 w3 r)
    case neg =>
      have hg : ¬ goodI w0 w1 w2 w3 r := fun h => ho h.1
      rw [if_neg hg] at ro
      rw [ro]
      rw [wordsV_no ho, ed] at wp
      simp only [hnil] at wp
      clear hg ho hw
      simp (disch := omega) only [wk, avalE, aactE, evPE, boundE, asNat, bv_seql cellsEq_ii, bv_sneqd cellsEq_ii, readC, allOne, fillL, resE, tupled, ↓reduceIte, Nat.reduceEqDiff, Int.reduceEq, Int.reduceLT, Int.reduceLE, Nat.reduceAdd, Nat.reduceMul, Nat.reduceLT, Nat.reduceLeDiff, reduceCtorEq, i16, i0, i1, i2, i3, h0, v1, g0', g1', v2, k3, c30, c32, i14, lr, bv, m1, b0, mle, lC, hsl, unb, eT, hnil, true_or, Nat.le_add_left, Nat.le_add_right, g2, g3, wp, pz]
    have sm := smok ho
    rw [wordsV_ok ho] at wp
    by_cases he : wordsI (decI w0 w1 w2 w3 r) = w0 :: w1 :: w2 :: w3 :: r
    case neg =>
      have hg : ¬ goodI w0 w1 w2 w3 r := fun h => he h.2
      rw [if_neg hg] at ro
      rw [ro]
      rw [decide_eq_false he] at sm
      rw [ed] at wp sm
      simp only [hnil] at wp
      clear hg ho hw he
      simp (disch := omega) only [wk, avalE, aactE, evPE, boundE, asNat, bv_seql cellsEq_ii, bv_sneqd cellsEq_ii, readC, allOne, fillL, resE, tupled, ↓reduceIte, Nat.reduceEqDiff, Int.reduceEq, Int.reduceLT, Int.reduceLE, Nat.reduceAdd, Nat.reduceMul, Nat.reduceLT, Nat.reduceLeDiff, reduceCtorEq, i16, i0, i1, i2, i3, h0, v1, g0', g1', v2, k3, c30, c32, i14, lr, bv, m1, b0, mle, lC, hsl, unb, eT, hnil, true_or, Nat.le_add_left, Nat.le_add_right, g2, g3, wp, sm, pz]
    have hg : goodI w0 w1 w2 w3 r := ⟨ho, he⟩
    rw [if_pos hg] at ro
    rw [ro]
    rw [decide_eq_true he] at sm
    rw [ed] at wp sm pd ⊢
    simp only [hnil] at wp pd
    clear hg ho hw he
    simp (disch := omega) only [wk, avalE, aactE, evPE, boundE, asNat, bv_seql cellsEq_ii, bv_sneqd cellsEq_ii, readC, allOne, fillL, resE, tupled, ↓reduceIte, Nat.reduceEqDiff, Int.reduceEq, Int.reduceLT, Int.reduceLE, Nat.reduceAdd, Nat.reduceMul, Nat.reduceLT, Nat.reduceLeDiff, reduceCtorEq, i16, i0, i1, i2, i3, h0, v1, g0', g1', v2, k3, c30, c32, i14, lr, bv, m1, b0, mle, lC, hsl, unb, eT, hnil, true_or, Nat.le_add_left, Nat.le_add_right, g2, g3, wp, sm, pd]
  by_cases g2 : w2 ≤ 4611686018427387904
  case neg =>
    have hg : ¬ goodI w0 w1 w2 w3 r := fun h => g2 ((good_bounds h).2.2 k3).1
    rw [if_neg hg] at ro
    rw [ro]
    have g2' : 4611686018427387904 < w2 := by omega
    clear hw hg
    unfold wlit
    simp (disch := omega) only [wk, avalE, aactE, evPE, boundE, asNat, bv_seql cellsEq_ii, bv_sneqd cellsEq_ii, readC, allOne, fillL, resE, tupled, ↓reduceIte, Nat.reduceEqDiff, Int.reduceEq, Int.reduceLT, Int.reduceLE, Nat.reduceAdd, Nat.reduceMul, Nat.reduceLT, Nat.reduceLeDiff, reduceCtorEq, i16, i0, i1, i2, i3, h0, v1, g0', g1', v2, k3, g2', pz]
  have g2' : ¬ 4611686018427387904 < w2 := by omega
  by_cases g3 : w3 ≤ 4611686018427387904
  case neg =>
    have hg : ¬ goodI w0 w1 w2 w3 r := fun h => g3 ((good_bounds h).2.2 k3).2
    rw [if_neg hg] at ro
    rw [ro]
    have g3' : 4611686018427387904 < w3 := by omega
    clear hw hg
    unfold wlit
    simp (disch := omega) only [wk, avalE, aactE, evPE, boundE, asNat, bv_seql cellsEq_ii, bv_sneqd cellsEq_ii, readC, allOne, fillL, resE, tupled, ↓reduceIte, Nat.reduceEqDiff, Int.reduceEq, Int.reduceLT, Int.reduceLE, Nat.reduceAdd, Nat.reduceMul, Nat.reduceLT, Nat.reduceLeDiff, reduceCtorEq, i16, i0, i1, i2, i3, h0, v1, g0', g1', v2, k3, g2', g3', pz]
  have g3' : ¬ 4611686018427387904 < w3 := by omega
  have v3 : IntKind.i64.wrap w2 = w2 := wrap_i64 (by omega) (by omega)
  have v4 : IntKind.i64.wrap w3 = w3 := wrap_i64 (by omega) (by omega)
  have v5 : IntKind.i64.wrap w1 = w1 := wrap_i64 (by omega) (by omega)
  have hnil : mapV [] = .sl 0 0 [] .z := rfl
  by_cases k2 : w0 % 256 = 2
  · have ed : decI w0 w1 w2 w3 r = ⟨2, w0 / 256, 0, [], w2, w3, ⟨#[]⟩⟩ := by simp [decI, k2, hlk]
    have c21 : ¬ (2 : Int) = 1 := by decide
    have c23 : ¬ (2 : Int) = 3 := by decide
    unfold wlit
    by_cases ho : okI (decI w0 w1 w2 w3 r)
    case neg =>
      have hg : ¬ goodI w0 w1 w2 w3 r := fun h => ho h.1
      rw [if_neg hg] at ro
      rw [ro]
      rw [wordsV_no ho, ed] at wp
      simp only [hnil] at wp
      clear hg ho hw
      simp (disch := omega) only [wk, avalE, aactE, evPE, boundE, asNat, bv_seql cellsEq_ii, bv_sneqd cellsEq_ii, readC, allOne, fillL, resE, tupled, ↓reduceIte, Nat.reduceEqDiff, Int.reduceEq, Int.reduceLT, Int.reduceLE, Nat.reduceAdd, Nat.reduceMul, Nat.reduceLT, Nat.reduceLeDiff, reduceCtorEq, i16, i0, i1, i2, i3, h0, v1, g0', g1', v2, k2, c21, c23, g2', g3', v3, v4, fve, hnil, wp, pz]
    have sm := smok ho
    rw [wordsV_ok ho] at wp
    by_cases he : wordsI (decI w0 w1 w2 w3 r) = w0 :: w1 :: w2 :: w3 :: r
    case neg =>
      have hg : ¬ goodI w0 w1 w2 w3 r := fun h => he h.2
      rw [if_neg hg] at ro
      rw [ro]
      rw [decide_eq_false he] at sm
      rw [ed] at wp sm
      simp only [hnil] at wp
      clear hg ho hw he
      simp (disch := omega) only [wk, avalE, aactE, evPE, boundE, asNat, bv_seql cellsEq_ii, bv_sneqd cellsEq_ii, readC, allOne, fillL, resE, tupled, ↓reduceIte, Nat.reduceEqDiff, Int.reduceEq, Int.reduceLT, Int.reduceLE, Nat.reduceAdd, Nat.reduceMul, Nat.reduceLT, Nat.reduceLeDiff, reduceCtorEq, i16, i0, i1, i2, i3, h0, v1, g0', g1', v2, k2, c21, c23, g2', g3', v3, v4, fve, hnil, wp, sm, pz]
    have hg : goodI w0 w1 w2 w3 r := ⟨ho, he⟩
    rw [if_pos hg] at ro
    rw [ro]
    rw [decide_eq_true he] at sm
    rw [ed] at wp sm pd ⊢
    simp only [hnil] at wp pd
    clear hg ho hw he
    simp (disch := omega) only [wk, avalE, aactE, evPE, boundE, asNat, bv_seql cellsEq_ii, bv_sneqd cellsEq_ii, readC, allOne, fillL, resE, tupled, ↓reduceIte, Nat.reduceEqDiff, Int.reduceEq, Int.reduceLT, Int.reduceLE, Nat.reduceAdd, Nat.reduceMul, Nat.reduceLT, Nat.reduceLeDiff, reduceCtorEq, i16, i0, i1, i2, i3, h0, v1, g0', g1', v2, k2, c21, c23, g2', g3', v3, v4, fve, hnil, wp, sm, pd]
  by_cases k1 : w0 % 256 = 1
  case neg =>
    have ed : decI w0 w1 w2 w3 r = ⟨w0 % 256, w0 / 256, 0, [], 0, 0, ⟨#[]⟩⟩ := by simp [decI, k1, k2, k3, hlk]
    unfold wlit
    by_cases ho : okI (decI w0 w1 w2 w3 r)
    case neg =>
      have hg : ¬ goodI w0 w1 w2 w3 r := fun h => ho h.1
      rw [if_neg hg] at ro
      rw [ro]
      rw [wordsV_no ho, ed] at wp
      simp only [hnil] at wp
      clear hg ho hw
      simp (disch := omega) only [wk, avalE, aactE, evPE, boundE, asNat, bv_seql cellsEq_ii, bv_sneqd cellsEq_ii, readC, allOne, fillL, resE, tupled, ↓reduceIte, Nat.reduceEqDiff, Int.reduceEq, Int.reduceLT, Int.reduceLE, Nat.reduceAdd, Nat.reduceMul, Nat.reduceLT, Nat.reduceLeDiff, reduceCtorEq, i16, i0, i1, i2, i3, h0, v1, g0', g1', v2, k1, k2, k3, g2', g3', hnil, wp, pz]
    have sm := smok ho
    rw [wordsV_ok ho] at wp
    by_cases he : wordsI (decI w0 w1 w2 w3 r) = w0 :: w1 :: w2 :: w3 :: r
    case neg =>
      have hg : ¬ goodI w0 w1 w2 w3 r := fun h => he h.2
      rw [if_neg hg] at ro
      rw [ro]
      rw [decide_eq_false he] at sm
      rw [ed] at wp sm
      simp only [hnil] at wp
      clear hg ho hw he
      simp (disch := omega) only [wk, avalE, aactE, evPE, boundE, asNat, bv_seql cellsEq_ii, bv_sneqd cellsEq_ii, readC, allOne, fillL, resE, tupled, ↓reduceIte, Nat.reduceEqDiff, Int.reduceEq, Int.reduceLT, Int.reduceLE, Nat.reduceAdd, Nat.reduceMul, Nat.reduceLT, Nat.reduceLeDiff, reduceCtorEq, i16, i0, i1, i2, i3, h0, v1, g0', g1', v2, k1, k2, k3, g2', g3', hnil, wp, sm, pz]
    have hg : goodI w0 w1 w2 w3 r := ⟨ho, he⟩
    rw [if_pos hg] at ro
    rw [ro]
    rw [decide_eq_true he] at sm
    rw [ed] at wp sm pd ⊢
    simp only [hnil] at wp pd
    clear hg ho hw he
    simp (disch := omega) only [wk, avalE, aactE, evPE, boundE, asNat, bv_seql cellsEq_ii, bv_sneqd cellsEq_ii, readC, allOne, fillL, resE, tupled, ↓reduceIte, Nat.reduceEqDiff, Int.reduceEq, Int.reduceLT, Int.reduceLE, Nat.reduceAdd, Nat.reduceMul, Nat.reduceLT, Nat.reduceLeDiff, reduceCtorEq, i16, i0, i1, i2, i3, h0, v1, g0', g1', v2, k1, k2, k3, g2', g3', hnil, wp, sm, pd]
  have ed : decI w0 w1 w2 w3 r = ⟨1, w0 / 256, w1, readE (w10 w2 w3 r), 0, 0, ⟨#[]⟩⟩ := by simp [decI, k1, hlk]
  have c13 : ¬ (1 : Int) = 3 := by decide
  have n10 : (wordsE []).length = 10 := rfl
  have lz := lenU (wordsE [])
  unfold wlit
  simp (disch := omega) only [wk, avalE, aactE, evPE, boundE, asNat, bv_seql cellsEq_ii, bv_sneqd cellsEq_ii, readC, allOne, fillL, resE, tupled, ↓reduceIte, Nat.reduceEqDiff, Int.reduceEq, Int.reduceLT, Int.reduceLE, Nat.reduceAdd, Nat.reduceMul, Nat.reduceLT, Nat.reduceLeDiff, reduceCtorEq, i16, i0, i1, i2, i3, h0, v1, g0', g1', v2, k1, c13, g2', g3']
  have w10l := hw.w10.1
  have rd := fun H => rread_px (w10 w2 w3 r) hw.w10.1 hw.w10.2 H
  have er : readR (w10 w2 w3 r) = if (ofM (readE (w10 w2 w3 r))).isSome = true ∧ wordsE (readE (w10 w2 w3 r)) = w10 w2 w3 r then (readE (w10 w2 w3 r), 0) else ([], 2) := rfl
  have tt := tk10 (w10 w2 w3 r) w10l
  have mv1 := (MapR.of (readE (w10 w2 w3 r))).one.1
  have mv2 := (MapR.of (readE (w10 w2 w3 r))).one.2
  have full : encs u64A (w0 :: w1 :: w2 :: w3 :: r) ++ rest = .int .u64 w0 :: .int .u64 w1 :: .int .u64 w2 :: .int .u64 w3 :: (encs u64A r ++ rest) := rfl
  have split10 : w0 :: w1 :: w2 :: w3 :: r = [w0, w1] ++ w10 w2 w3 r ++ r.drop 8 := by simp [w10]
  refine loop_ind (fun (x : List Int × List Int × List Int) E df H => w10 w2 w3 r = x.1 ++ x.2.1 ∧ x.2.2.length = 10 ∧ x.2.2.take x.1.length = x.1 ∧ E 0 = .sl 1 16 (.int .u64 w0 :: .int .u64 w1 :: .int .u64 w2 :: .int .u64 w3 :: (encs u64A r ++ rest)) u1 ∧ E 2 = .ptr 0 0 ∧ E 3 = .int .i64 0 ∧ E 4 = .ptr 1 0 ∧ E 5 = .ptr 2 0 ∧ E 6 = .int .i64 (x.1.length : Nat) ∧ df = [] ∧
      H = [.cells [.int .i64 0, .int .i64 0, .int .i64 0, .sl 0 0 [] .z, .int .i64 0, .int .i64 0, .str ⟨#[]⟩], .cells [.int .i64 1, .int .i64 (w0 / 256), .int .i64 0, .sl 0 0 [] .z, .int .i64 0, .int .i64 0, .str ⟨#[]⟩], .cells (encs u64A x.2.2)])
    (fun x => x.2.1.length) ([], w10 w2 w3 r, wordsE []) (by decide) (.inl rfl) ⟨rfl, rfl, rfl, rfl, rfl, rfl, rfl, rfl, rfl, rfl, rfl⟩ ?_
  intro ⟨pre, suf, W⟩ E df H ih hP
  obtain ⟨q1, q2, q3, E0, E2, E3, E4, E5, E6, hdf, hH⟩ := hP
  dsimp only at q1 q2 q3 E6 hH
  subst hdf hH
  have hll : pre.length + suf.length = 10 := by rw [← List.length_append, ← q1, w10l]
  cases suf with
  | nil =>
    simp only [List.length_nil, Nat.add_zero] at hll
    have n1 : ¬ (pre.length : Int) < 10 := by omega
    have eW : W = w10 w2 w3 r := by
      rw [List.append_nil] at q1
      rw [q1, ← q3, List.take_of_length_le (by omega)]
    subst eW
    have lw := lenU (w10 w2 w3 r)
    simp only [readV, arrV] at rd
    by_cases hE : (ofM (readE (w10 w2 w3 r))).isSome = true ∧ wordsE (readE (w10 w2 w3 r)) = w10 w2 w3 r
    case neg =>
      have hg : ¬ goodI w0 w1 w2 w3 r := by
        intro hg
        obtain ⟨g1, g2⟩ := hg
        rw [ed] at g1 g2
        obtain ⟨_, _, a, b, d⟩ := (okI_1 rfl).1 g1
        refine hE ⟨mapOk_some d, ?_⟩
        have hl := wordsE_len (isSome_right (mapOk_some d)).1
        have ht : tailI ⟨1, w0 / 256, w1, readE (w10 w2 w3 r), 0, 0, ⟨#[]⟩⟩ = w1 :: wordsE (readE (w10 w2 w3 r)) := rfl
        unfold wordsI at g2
        rw [ht] at g2
        simp only [List.cons_append, List.cons.injEq] at g2
        have g3 := congrArg (List.take 10) g2.2.2
        rw [List.take_append_of_le_length (by rw [hl]; exact Nat.le_refl _), List.take_of_length_le (by rw [hl]; exact Nat.le_refl _)] at g3
        exact g3
      rw [if_neg hg] at ro
      rw [ro]
      rw [if_neg hE] at er
      rw [er] at rd
      clear hg hE hw hll
      simp (disch := omega) only [wk, avalE, aactE, evPE, boundE, asNat, bv_seql cellsEq_ii, bv_sneqd cellsEq_ii, readC, allOne, fillL, resE, tupled, ↓reduceIte, Nat.reduceEqDiff, Int.reduceEq, Int.reduceLT, Int.reduceLE, Nat.reduceAdd, Nat.reduceMul, Nat.reduceLT, Nat.reduceLeDiff, reduceCtorEq, E0, E2, E3, E4, E5, E6, n1, lw, w10l, tt, rd, pz]
    rw [if_pos hE] at er
    rw [er] at rd
    clear hE
    unfold mapV at mv1 mv2
    by_cases ho : okI (decI w0 w1 w2 w3 r)
    case neg =>
      have hg : ¬ goodI w0 w1 w2 w3 r := fun h => ho h.1
      rw [if_neg hg] at ro
      rw [ro]
      rw [wordsV_no ho, ed] at wp
      simp only [mapV] at wp
      clear hg ho hw
      simp (disch := omega) only [wk, avalE, aactE, evPE, boundE, asNat, bv_seql cellsEq_ii, bv_sneqd cellsEq_ii, readC, allOne, fillL, resE, tupled, ↓reduceIte, Nat.reduceEqDiff, Int.reduceEq, Int.reduceLT, Int.reduceLE, Nat.reduceAdd, Nat.reduceMul, Nat.reduceLT, Nat.reduceLeDiff, reduceCtorEq, E0, E2, E3, E4, E5, E6, n1, lw, w10l, tt, rd, i1, v5, mv1, mv2, mapV, wp, pz]
    have sm := smok ho
    rw [wordsV_ok ho] at wp
    by_cases he : wordsI (decI w0 w1 w2 w3 r) = w0 :: w1 :: w2 :: w3 :: r
    case neg =>
      have hg : ¬ goodI w0 w1 w2 w3 r := fun h => he h.2
      rw [if_neg hg] at ro
      rw [ro]
      rw [decide_eq_false he] at sm
      rw [ed] at wp sm
      simp only [mapV] at wp
      clear hg ho hw he
      simp (disch := omega) only [wk, avalE, aactE, evPE, boundE, asNat, bv_seql cellsEq_ii, bv_sneqd cellsEq_ii, readC, allOne, fillL, resE, tupled, ↓reduceIte, Nat.reduceEqDiff, Int.reduceEq, Int.reduceLT, Int.reduceLE, Nat.reduceAdd, Nat.reduceMul, Nat.reduceLT, Nat.reduceLeDiff, reduceCtorEq, E0, E2, E3, E4, E5, E6, n1, lw, w10l, tt, rd, i1, v5, mv1, mv2, mapV, wp, sm, pz]
    have hg : goodI w0 w1 w2 w3 r := ⟨ho, he⟩
    rw [if_pos hg] at ro
    rw [ro]
    rw [decide_eq_true he] at sm
    rw [ed] at wp sm pd ⊢
    simp only [mapV] at wp pd
    clear hg ho hw he
    simp (disch := omega) only [wk, avalE, aactE, evPE, boundE, asNat, bv_seql cellsEq_ii, bv_sneqd cellsEq_ii, readC, allOne, fillL, resE, tupled, ↓reduceIte, Nat.reduceEqDiff, Int.reduceEq, Int.reduceLT, Int.reduceLE, Nat.reduceAdd, Nat.reduceMul, Nat.reduceLT, Nat.reduceLeDiff, reduceCtorEq, E0, E2, E3, E4, E5, E6, n1, lw, w10l, tt, rd, i1, v5, mv1, mv2, mapV, wp, sm, pd]
  | cons v r' =>
    simp only [List.length_cons] at hll
    have n1 : (pre.length : Int) < 10 := by omega
    have lW := lenU W
    have e1 : (2 : Int) + (pre.length : Int) = ((2 + pre.length : Nat) : Int) := by omega
    have n2 : ((2 + pre.length : Nat) : Int) < ((16 : Nat) : Int) := by omega
    have d : List.drop (2 + pre.length) (.int .u64 w0 :: .int .u64 w1 :: .int .u64 w2 :: .int .u64 w3 :: (encs u64A r ++ rest)) = .int .u64 v :: (encs u64A (r' ++ r.drop 8) ++ rest) := by
      rw [← full, split10, q1]
      have h := wdrop ([w0, w1] ++ pre) v (r' ++ r.drop 8) rest
      have hl2 : ([w0, w1] ++ pre).length = 2 + pre.length := by simp; omega
      rw [hl2] at h
      rw [← h]
      simp
    have su := setU W pre.length v (by omega)
    simp (disch := omega) only [wk, avalE, aactE, evPE, boundE, asNat, bv_seql cellsEq_ii, bv_sneqd cellsEq_ii, readC, allOne, fillL, resE, tupled, ↓reduceIte, Nat.reduceEqDiff, Int.reduceEq, Int.reduceLT, Int.reduceLE, Nat.reduceAdd, Nat.reduceMul, Nat.reduceLT, Nat.reduceLeDiff, reduceCtorEq, E0, E2, E3, E4, E5, E6, n1, n2, e1, d, lW, q2, su, Nat.zero_add]
    refine ih (pre ++ [v], r', W.set pre.length v) _ _ _ (by simp) ?_
    refine ⟨by simp [q1], by rw [List.length_set]; exact q2, ?_, by simp only [en, ↓reduceIte, Nat.reduceEqDiff, E0], by simp only [en, ↓reduceIte, Nat.reduceEqDiff, E2], by simp only [en, ↓reduceIte, Nat.reduceEqDiff, E3], by simp only [en, ↓reduceIte, Nat.reduceEqDiff, E4], by simp only [en, ↓reduceIte, Nat.reduceEqDiff, E5], by simp only [en, ↓reduceIte, Nat.reduceEqDiff], rfl, rfl⟩
    dsimp only
    have hpl : pre.length < W.length := by omega
    rw [List.length_append, List.length_singleton, List.take_set, List.take_succ_eq_append_getElem hpl, q3, List.set_append_right _ _ (Nat.le_refl _), Nat.sub_self]
    rfl
end Go.Proofs.Ytncmflmjlocgiaa
