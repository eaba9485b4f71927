/- A ROUND OF THE LAW NodeReads. No condition but those stated. -/
import Derived.Test.YtailfegmnkldoaaLRe0
set_option linter.unusedSimpArgs false
set_option linter.unusedVariables false
set_option linter.unusedSectionVars false
namespace Go.Proofs.Ytailfegmnkldoaa
open Go Go.Am Go.Slots Go.Nod
set_option maxHeartbeats 4000000
set_option maxRecDepth 10000
/-- What memory shows in a round. -/
structure ReR (old : List (Nat × AObj)) (turn many : Int) (nd : Nd) (at_ : List Int) (k11 k12 id : Nat) (tm : List AV) (ms : List ADf) (s : Nat × Bool) (H : Heap) : Prop where
  many : H[0]? = some (.cells [.int .i64 many])
  res : H[1]? = some (.cells [.bool false])
  want : H[3]? = some (.cells [.int .i64 nd.v, .int .i64 nd.s, .int .u64 nd.l, .int .u64 nd.f, .int .i64 nd.y, slvR 2 pairA nd.ps])
  at_ : H[5]? = some (.cells [slvR 1 intA at_])
  turn : H[k11]? = some (.cells [.int .i64 turn])
  n : H[k12]? = some (.cells [.int .i64 (s.1 : Nat)])
  lo : H[id]? = some (if s.2 then .loop 2 (.exit 2) tm [70, 71] reAs reBd else .loop 0 .normal tm [70, 71] reAs reBd)
  ms : Marks H ms
  old : ∀ p ∈ old, H[p.1]? = some p.2
section
variable {old : List (Nat × AObj)} {turn many : Int} {nd : Nd} {at_ : List Int} {k11 k12 id : Nat} {tm : List AV} {ms : List ADf}
/-- All but the count and the loop is as it was. -/
theorem ReR.next {s s' : Nat × Bool} {H H' : Heap} (h : ReR old turn many nd at_ k11 k12 id tm ms s H) (hk : k12 ≠ 0 ∧ k12 ≠ 1 ∧ k12 ≠ 3 ∧ k12 ≠ 5 ∧ k12 ≠ k11) (hi : id ≠ 0 ∧ id ≠ 1 ∧ id ≠ 3 ∧ id ≠ 5 ∧ id ≠ k11) (ho : ∀ p ∈ old, p.1 ≠ k12 ∧ p.1 ≠ id)
    (same : ∀ (i : Nat) (o : AObj), H[i]? = some o → i ≠ k12 → i ≠ id → H'[i]? = some o) (hn : H'[k12]? = some (.cells [.int .i64 (s'.1 : Nat)]))
    (hl : H'[id]? = some (if s'.2 then .loop 2 (.exit 2) tm [70, 71] reAs reBd else .loop 0 .normal tm [70, 71] reAs reBd)) : ReR old turn many nd at_ k11 k12 id tm ms s' H' :=
  ⟨same _ _ h.many (by omega) (by omega), same _ _ h.res (by omega) (by omega), same _ _ h.want (by omega) (by omega), same _ _ h.at_ (by omega) (by omega), same _ _ h.turn (by omega) (by omega), hn, hl,
    h.ms.mono fun j _ hj => same _ _ hj (by rintro rfl; rw [h.n] at hj; cases hj) (by rintro rfl; rw [h.lo] at hj; split at hj <;> cases hj), fun p hp => same _ _ (h.old p hp) (ho p hp).1 (ho p hp).2⟩
theorem ReR.keep {s : Nat × Bool} {H H' : Heap} (h : ReR old turn many nd at_ k11 k12 id tm ms s H) (same : ∀ (i : Nat) (o : AObj), H[i]? = some o → (i = 0 ∨ i = 1 ∨ i = 3 ∨ i = 5 ∨ i = k11 ∨ i = k12 ∨ i = id ∨ ADf.mark i ∈ ms ∨ ∃ p ∈ old, p.1 = i) → H'[i]? = some o) : ReR old turn many nd at_ k11 k12 id tm ms s H' :=
  ⟨same _ _ h.many (by simp), same _ _ h.res (by simp), same _ _ h.want (by simp), same _ _ h.at_ (by simp), same _ _ h.turn (by simp), same _ _ h.n (by simp), same _ _ h.lo (by simp), h.ms.mono fun j hm hj => same _ _ hj (by simp [hm]), fun p hp => same _ _ (h.old p hp) (by right; right; right; right; right; right; right; right; exact ⟨p, hp, rfl⟩)⟩
theorem re_ys {E : Env} (L : List (Nat × (Int × Int))) (hL : L.length ≤ 100) (hl : nd.ps = L.map (·.2)) (ha_ : at_ = L.map (fun p => (p.1 : Int))) (ha : Ag 145 tm E) (E3 : E 3 = .ptr 0 0) (E4 : E 4 = .ptr 1 0) (E8 : E 8 = .ptr 3 0) (E11 : E 11 = .ptr 5 0) (E12 : E 12 = .ptr k11 0) (E13 : E 13 = .ptr k12 0)
    (hk : k12 ≠ 0 ∧ k12 ≠ 1 ∧ k12 ≠ 3 ∧ k12 ≠ 5 ∧ k12 ≠ k11) (hi : id ≠ 0 ∧ id ≠ 1 ∧ id ≠ 3 ∧ id ≠ 5 ∧ id ≠ k11 ∧ id ≠ k12) (hlt : k11 < id ∧ k12 < id ∧ 5 < id) (ho : ∀ p ∈ old, p.1 ≠ k12 ∧ p.1 < id) (hmk : ∀ j, ADf.mark j ∈ ms → j < id) :
    YS id (id + 1) (fun s : Nat × Bool => s.1) (reOk L) (ReR old turn many nd at_ k11 k12 id tm ms) (reStp turn many) := by
  refine ⟨?_, ?_, ?_⟩
  · intro s H j x hH hcnt hj hok hR
    obtain ⟨n, b⟩ := s
    obtain ⟨hb, hget⟩ := hok
    simp only at hb hget hcnt
    subst hb
    have hnl : n < L.length := (List.getElem?_eq_some_iff.1 hget).1
    refine ⟨?_, ?_⟩
    · unfold reStp; split <;> simp <;> omega
    have key := yl_wp (tab := tab) (P := fun b H' => b = (reStp turn many (n, false) j x).2 ∧ ReR old turn many nd at_ k11 k12 id tm ms (reStp turn many (n, false) j x).1 H' ∧ H.length ≤ H'.length ∧ ∀ i o, id + 1 ≤ i → (∀ s, o ≠ .tok s) → H[i]? = some o → H'[i]? = some o)
      (args := [.int .i64 (j : Nat), .agg (pairA x)]) (readLoop_of hR.lo) ha rfl (by decide) (by decide) (by decide) (by decide) (by decide) ?_
    · obtain ⟨b, H', k1, rfl, k2⟩ := key
      exact ⟨H', k1, k2⟩
    have e1 : ∀ o : AObj, (H ++ [o])[H.length]? = some o := fun o => by simp
    unfold reAs
    simp (disch := omega) only [wk, avalE, aactE, evPE, boundE, asNat, bv_seql cellsEq_ii, bv_sneqd cellsEq_ii, readC, allOne, fillL, resE, tupled, ↓reduceIte, Nat.reduceEqDiff, Int.reduceEq, Int.reduceLT, Int.reduceLE, Nat.reduceAdd, Nat.reduceMul, Nat.reduceLT, Nat.reduceLeDiff, reduceCtorEq, updPs_cons, updPs_nil, e1, pairA, List.append_nil]
    have up : ∀ (i : Nat) (q o o' : AObj), H[i]? = some q → ((H ++ [o]).set H.length o')[i]? = some q := fun i q o o' hq => by
      have := (List.getElem?_eq_some_iff.1 hq).1
      rw [set_ne (by omega), List.getElem?_append_left this]
      exact hq
    refine ⟨rfl, rfl, _, _, _, _, _, readLoop_of (up _ _ _ _ hR.lo), ?_⟩
    generalize hH1 : (List.set (H ++ [AObj.cells [AV.int IntKind.u64 0, AV.int IntKind.u64 0]]) H.length _) = H1
    have u1 : ∀ (i : Nat) (q : AObj), H[i]? = some q → H1[i]? = some q := fun i q hq => by rw [← hH1]; exact up _ _ _ _ hq
    have u2 : H1[H.length]? = some (.cells (pairA x)) := by rw [← hH1]; exact set_eq (e1 _)
    have u3 : H1.length = H.length + 1 := by rw [← hH1]; simp
    have w0 : ∀ o (i : Nat) (q : AObj), H[i]? = some q → i ≠ id → (H1.set id o)[i]? = some q := fun o i q hq hne => by rw [set_ne (fun e => hne e.symm)]; exact u1 _ _ hq
    have wn := fun o => w0 o _ _ hR.n (by omega)
    have ww := fun o => w0 o _ _ hR.want (by omega)
    have wa := fun o => w0 o _ _ hR.at_ (by omega)
    have wt := fun o => w0 o _ _ hR.turn (by omega)
    have wm := fun o => w0 o _ _ hR.many (by omega)
    have wx : ∀ o, (H1.set id o)[H.length]? = some (.cells [.int .u64 x.1, .int .u64 x.2]) := fun o => by rw [set_ne (by omega)]; exact u2
    obtain ⟨s2, t2, es2, hz2, _⟩ := slvR_form 2 pairA nd.ps
    obtain ⟨s1, t1, es1, hz1, _⟩ := slvR_form 1 intA at_
    have hlg : nd.ps[n]? = some x := by rw [hl, List.getElem?_map, hget]; rfl
    have hag : at_[n]? = some (j : Int) := by rw [ha_, List.getElem?_map, hget]; rfl
    have hll : nd.ps.length = L.length := by rw [hl, List.length_map]
    have hal : at_.length = L.length := by rw [ha_, List.length_map]
    obtain rfl := hz2 (by intro e; rw [e] at hlg; simp at hlg)
    obtain rfl := hz1 (by intro e; rw [e] at hag; simp at hag)
    have dl := drop_at (f := pairA) nd.ps n hlg
    have da := drop_at (f := intA) at_ n hag
    simp only [pairA, intA, Nat.mul_one, List.cons_append, List.nil_append] at dl da
    rw [es2] at ww
    rw [es1] at wa
    have len0 : ((n : Nat) : Int) < nd.ps.length := by omega
    have fin : ∀ (c : Bool) (lo' : AObj), c = (reStp turn many (n, false) j x).2 → lo' = (if (reStp turn many (n, false) j x).1.2 then .loop 2 (.exit 2) tm [70, 71] reAs reBd else .loop 0 .normal tm [70, 71] reAs reBd) → ∀ o,
        c = (reStp turn many (n, false) j x).2 ∧ ReR old turn many nd at_ k11 k12 id tm ms (reStp turn many (n, false) j x).1 (((H1.set id o).set k12 (.cells [.int .i64 ((n : Int) + 1)])).set id lo') ∧ H.length ≤ (((H1.set id o).set k12 (.cells [.int .i64 ((n : Int) + 1)])).set id lo').length ∧
          ∀ i q, id + 1 ≤ i → (∀ s, q ≠ .tok s) → H[i]? = some q → (((H1.set id o).set k12 (.cells [.int .i64 ((n : Int) + 1)])).set id lo')[i]? = some q := by
      intro c lo' hc hlo o
      have hn1 : (reStp turn many (n, false) j x).1.1 = n + 1 := by unfold reStp; split <;> rfl
      refine ⟨hc, hR.next hk ⟨hi.1, hi.2.1, hi.2.2.1, hi.2.2.2.1, hi.2.2.2.2.1⟩ (fun p hp => ⟨(ho p hp).1, by have := (ho p hp).2; omega⟩) (fun i q hq h1 h2 => ?_) ?_ ?_, by simp; omega, fun i q h1 hnt h2 => ?_⟩
      · rw [set_ne (fun e => h2 e.symm), set_ne (fun e => h1 e.symm)]; exact w0 o i q hq h2
      · rw [set_ne (by omega), set_eq (wn o), hn1]; rfl
      · rw [set_eq (o := lo') (q := o) (by rw [set_ne (by omega)]; exact set_eq (u1 _ _ hR.lo)), hlo]
      · rw [set_ne (by omega), set_ne (by omega)]; exact w0 o i _ h2 (by omega)
    unfold reBd
    have hnk : ∀ o, ((H1.set id o).set k12 (.cells [.int .i64 ((n : Int) + 1)]))[k12]? = some (.cells [.int .i64 ((n : Int) + 1)]) := fun o => set_eq (wn o)
    have htk : ∀ o, ((H1.set id o).set k12 (.cells [.int .i64 ((n : Int) + 1)]))[k11]? = some (.cells [.int .i64 turn]) := fun o => by rw [set_ne (by omega)]; exact wt o
    have hmk : ∀ o, ((H1.set id o).set k12 (.cells [.int .i64 ((n : Int) + 1)]))[0]? = some (.cells [.int .i64 many]) := fun o => by rw [set_ne (by omega)]; exact wm o
    have hid : ∀ o, ((H1.set id o).set k12 (.cells [.int .i64 ((n : Int) + 1)]))[id]? = some o := fun o => by rw [set_ne (by omega)]; exact set_eq (u1 _ _ hR.lo)
    by_cases ht : turn = 0
    case neg =>
      simp (disch := omega) only [wk, avalE, aactE, evPE, boundE, asNat, bv_seql cellsEq_ii, bv_sneqd cellsEq_ii, readC, allOne, fillL, resE, tupled, ↓reduceIte, Nat.reduceEqDiff, Int.reduceEq, Int.reduceLT, Int.reduceLE, Nat.reduceAdd, Nat.reduceMul, Nat.reduceLT, Nat.reduceLeDiff, reduceCtorEq, E3, E4, E8, E11, E12, E13, wn, ww, wa, wt, wm, wx, dl, da, hnk, htk, hmk, ht, List.append_nil]
      have hst : reStp turn many (n, false) j x = ((n + 1, false), true) := by simp [reStp, ht]
      exact ⟨rfl, _, _, _, _, _, _, readLoop_of (hid _), fin true _ (by rw [hst]) (by rw [hst]; rfl) _⟩
    subst ht
    by_cases hm : many ≤ (n : Int) + 1
    · simp (disch := omega) only [wk, avalE, aactE, evPE, boundE, asNat, bv_seql cellsEq_ii, bv_sneqd cellsEq_ii, readC, allOne, fillL, resE, tupled, ↓reduceIte, Nat.reduceEqDiff, Int.reduceEq, Int.reduceLT, Int.reduceLE, Nat.reduceAdd, Nat.reduceMul, Nat.reduceLT, Nat.reduceLeDiff, reduceCtorEq, E3, E4, E8, E11, E12, E13, wn, ww, wa, wt, wm, wx, dl, da, hnk, htk, hmk, hm, List.append_nil]
      have hst : reStp 0 many (n, false) j x = ((n + 1, true), false) := by simp [reStp, hm]
      exact ⟨rfl, _, _, _, _, _, _, readLoop_of (hid _), fin false _ (by rw [hst]) (by rw [hst]; rfl) _⟩
    · simp (disch := omega) only [wk, avalE, aactE, evPE, boundE, asNat, bv_seql cellsEq_ii, bv_sneqd cellsEq_ii, readC, allOne, fillL, resE, tupled, ↓reduceIte, Nat.reduceEqDiff, Int.reduceEq, Int.reduceLT, Int.reduceLE, Nat.reduceAdd, Nat.reduceMul, Nat.reduceLT, Nat.reduceLeDiff, reduceCtorEq, E3, E4, E8, E11, E12, E13, wn, ww, wa, wt, wm, wx, dl, da, hnk, htk, hmk, hm, List.append_nil]
      have hst : reStp 0 many (n, false) j x = ((n + 1, false), true) := by simp [reStp, hm]
      exact ⟨rfl, _, _, _, _, _, _, readLoop_of (hid _), fin true _ (by rw [hst]) (by rw [hst]; rfl) _⟩
  · intro s H o h
    exact h.keep fun i q hq _ => by rw [List.getElem?_append_left (List.getElem?_eq_some_iff.1 hq).1]; exact hq
  · intro s H i o o' hi2 h hnt hc
    refine h.keep fun j q hq hj => ?_
    have hne : i ≠ j := by
      rintro rfl
      rcases hj with h1 | h1 | h1 | h1 | h1 | h1 | h1 | h1 | ⟨p, hp, h1⟩
      case inr.inr.inr.inr.inr.inr.inr.inr => have := (ho p hp).2; omega
      case inr.inr.inr.inr.inr.inr.inr.inl => have := hmk _ h1; omega
      all_goals omega
    rw [set_ne hne]
    exact hq
end
end Go.Proofs.Ytailfegmnkldoaa
