/- THE LOOP OF THE LAW NodeReads. No condition but those stated. -/
import Derived.Test.YtailfegmnkldoaaLRe1
set_option linter.unusedSimpArgs false
set_option linter.unusedVariables false
set_option linter.unusedSectionVars false
namespace Go.Proofs.Ytailfegmnkldoaa
open Go Go.Am Go.Slots Go.Nod
set_option maxHeartbeats 4000000
set_option maxRecDepth 10000
def reLp : ACode := (.seq (.seq (.region [⟨(.some 65), (.load 1 false (.t 12)), .none⟩, ⟨(.some 66), (.bin .lss .num (.t 65) (.c (.int .i64 2))), .none⟩]) (.cond (.t 66) .skip (.exit 0))) (.seq (.block 1 (.seq (.region [⟨(.some 13), (.alloc [(.int .i64 0)]), .none⟩, ⟨.none, (.store 1 (.t 13) (.c (.int .i64 0))), .none⟩]) (.seq (.seq (.region [⟨(.some 69), (.mv (.t 10)), .none⟩]) (.block 2 (.range (.t 69) [70, 71] reAs reBd))) (.seq (.region [⟨(.some 103), (.load 1 false (.t 12)), .none⟩, ⟨(.some 104), (.bin .eql .num (.t 103) (.c (.int .i64 0))), .none⟩, ⟨(.some 105), (.mv (.t 104)), .none⟩, ⟨(.some 106), (.load 1 false (.t 13)), (.some (105, true))⟩, ⟨(.some 107), (.fld 5 (.t 8)), (.some (105, true))⟩, ⟨(.some 108), (.load 1 false (.t 107)), (.some (105, true))⟩, ⟨(.some 109), (.len 0 (.t 108)), (.some (105, true))⟩, ⟨(.some 110), (.load 1 false (.t 3)), (.some (105, true))⟩, ⟨(.some 111), (.mm true (.c (.int .i64 1)) (.t 110)), (.some (105, true))⟩, ⟨(.some 112), (.mm false (.t 109) (.t 111)), (.some (105, true))⟩, ⟨(.some 113), (.bin .neq .num (.t 106) (.t 112)), (.some (105, true))⟩, ⟨(.some 114), (.pick (.t 105) (.t 113) (.c (.bool false))), .none⟩, ⟨(.some 115), (.mv (.t 114)), .none⟩, ⟨(.some 116), (.load 1 false (.t 12)), (.some (115, false))⟩, ⟨(.some 117), (.bin .eql .num (.t 116) (.c (.int .i64 1))), (.some (115, false))⟩, ⟨(.some 118), (.mv (.t 117)), (.some (115, false))⟩, ⟨(.some 119), (.load 1 false (.t 13)), (.some (118, true))⟩, ⟨(.some 120), (.fld 5 (.t 8)), (.some (118, true))⟩, ⟨(.some 121), (.load 1 false (.t 120)), (.some (118, true))⟩, ⟨(.some 122), (.len 0 (.t 121)), (.some (118, true))⟩, ⟨(.some 123), (.bin .neq .num (.t 119) (.t 122)), (.some (118, true))⟩, ⟨(.some 124), (.pick (.t 118) (.t 123) (.c (.bool false))), (.some (115, false))⟩, ⟨(.some 125), (.pick (.t 115) (.c (.bool true)) (.t 124)), .none⟩]) (.cond (.t 125) (.seq (.region [⟨.none, (.store 1 (.t 4) (.c (.bool false))), .none⟩]) .ret) .skip))))) (.seq (.seq (.region [⟨(.some 126), (.load 1 false (.t 12)), .none⟩]) (.region [⟨(.some 12), (.alloc [(.int .i64 0)]), .none⟩, ⟨.none, (.store 1 (.t 12) (.t 126)), .none⟩])) (.region [⟨(.some 67), (.load 1 false (.t 12)), .none⟩, ⟨(.some 68), (.bin .add .num (.t 67) (.c (.int .i64 1))), .none⟩, ⟨.none, (.store 1 (.t 12) (.t 68)), .none⟩]))))
def reTl : ACode := (.seq (.region [⟨(.some 127), (.mv (.t 5)), .none⟩, ⟨(.some 128), (.mv (.t 0)), .none⟩, ⟨(.some 129), (.callf 24 [(.t 127), (.t 128)]), .none⟩, ⟨(.some 130), (.mv (.t 129)), .none⟩, ⟨(.some 131), (.mv (.t 5)), (.some (130, true))⟩, ⟨(.some 132), (.mv (.t 0)), (.some (130, true))⟩, ⟨(.some 133), (.len 0 (.t 132)), (.some (130, true))⟩, ⟨(.some 134), (.bin .add .num (.t 133) (.c (.int .i64 1))), (.some (130, true))⟩, ⟨(.some 135), (.slice 1 (.t 131) .none (.some (.t 134))), (.some (130, true))⟩, ⟨(.some 136), (.mv (.t 0)), (.some (130, true))⟩, ⟨(.some 137), (.len 0 (.t 136)), (.some (130, true))⟩, ⟨(.some 138), (.ixa 1 (.t 135) (.t 137)), (.some (130, true))⟩, ⟨(.some 139), (.load 1 false (.t 138)), (.some (130, true))⟩, ⟨(.some 140), (.bin .eql .num (.t 139) (.c (.int .u64 77))), (.some (130, true))⟩, ⟨(.some 141), (.pick (.t 130) (.t 140) (.c (.bool false))), .none⟩, ⟨(.some 142), (.mv (.t 141)), .none⟩, ⟨(.some 143), (.callf 20 []), (.some (142, true))⟩, ⟨(.some 144), (.pick (.t 142) (.t 143) (.c (.bool false))), .none⟩, ⟨.none, (.store 1 (.t 4) (.t 144)), .none⟩]) .ret)
theorem fn_nil {xo yo : X} {f : FuncId} {c : List AV} : binV .eql .func xo yo (.fn f c) .nilf = some (.bool false) := rfl
theorem reads_loop {many : Int} {nd : Nd} {xs : List Int} {u1 : Tk} {L : List (Nat × (Int × Int))} {k0 k11 : Nat} {E : Env} {H : Heap} (hlen : xs.length ≤ 80) (hmin : -9223372036854775808 ≤ many) (hmax : many ≤ 9223372036854775807) (hL : L.length ≤ 100) (hnd : nd.ps = L.map (·.2)) (hcase : (L = [] ∧ ∀ H, pcx (cbL tab) 29 [.sl 1 xs.length (encs u64A xs ++ [.int .u64 77]) .ro] H = some (.plain (.tup [nd0.av, .int .i64 210]))) ∨ ∃ (h : Hd) (ps : List (Int × Int)), h.u ∧ h.ok ∧ ps.length = 28 ∧ xs.length = 64 ∧ encs u64A xs = wordsA h ps [] ∧ L = eachL h.f 0 ps)
    (E0 : E 0 = .sl 1 xs.length (encs u64A xs) u1) (E3 : E 3 = .ptr 0 0) (E4 : E 4 = .ptr 1 0) (E8 : E 8 = .ptr 3 0) (E11 : E 11 = .ptr 5 0) (E5 : E 5 = .sl 1 xs.length (encs u64A xs ++ [.int .u64 77]) .ro) (E10 : E 10 = .fn 68 [.ptr k0 0]) (E12 : E 12 = .ptr k11 0)
    (h0 : H[0]? = some (.cells [.int .i64 many])) (h1 : H[1]? = some (.cells [.bool false])) (h2 : H[3]? = some (.cells [.int .i64 nd.v, .int .i64 nd.s, .int .u64 nd.l, .int .u64 nd.f, .int .i64 nd.y, slvR 2 pairA nd.ps])) (h3 : H[5]? = some (.cells [slvR 1 intA (L.map (fun p => (p.1 : Int)))]))
    (hk : H[k0]? = some (.cells [.sl 1 xs.length (encs u64A xs ++ [.int .u64 77]) .ro])) (h11 : H[k11]? = some (.cells [.int .i64 0])) (hlt : 5 < k11) :
    Ret (cbL tab) none 145 (Am.Ends tab [.cell 4 1 false] fun o H => purify (some (o, H)) = some (.plain (.bool true))) [.code (.loop reLp), .blk 0, .code reTl] .normal E [] H := by
  have hu := hf_u64A xs
  have hcl : hfL (encs u64A xs ++ [.int .u64 77]) = true := by rw [hfL_append, hu]; rfl
  obtain ⟨s2, t2, es2, hz2, _⟩ := slvR_form 2 pairA nd.ps
  have hml : nd.ps.length = L.length := by rw [hnd, List.length_map]
  refine loop_ind (fun (x : Nat × Nat) E df H => x.1 ≤ 2 ∧ 5 < x.2 ∧ E 0 = .sl 1 xs.length (encs u64A xs) u1 ∧ E 3 = .ptr 0 0 ∧ E 4 = .ptr 1 0 ∧ E 8 = .ptr 3 0 ∧ E 11 = .ptr 5 0 ∧ E 5 = .sl 1 xs.length (encs u64A xs ++ [.int .u64 77]) .ro ∧ E 10 = .fn 68 [.ptr k0 0] ∧ E 12 = .ptr x.2 0 ∧
      H[0]? = some (.cells [.int .i64 many]) ∧ H[1]? = some (.cells [.bool false]) ∧ H[3]? = some (.cells [.int .i64 nd.v, .int .i64 nd.s, .int .u64 nd.l, .int .u64 nd.f, .int .i64 nd.y, slvR 2 pairA nd.ps]) ∧ H[5]? = some (.cells [slvR 1 intA (L.map (fun p => (p.1 : Int)))]) ∧ H[k0]? = some (.cells [.sl 1 xs.length (encs u64A xs ++ [.int .u64 77]) .ro]) ∧ H[x.2]? = some (.cells [.int .i64 (x.1 : Nat)]) ∧ Marks H df)
    (fun x => 2 - x.1) (0, k11) (by decide) (.inl rfl) ⟨by omega, hlt, E0, E3, E4, E8, E11, E5, E10, E12, h0, h1, h2, h3, hk, h11, trivial⟩ ?_
  clear E0 E3 E4 E8 E11 E5 E10 E12 h0 h1 h2 h3 hk h11 hlt
  intro ⟨turn, k11⟩ E df H ih hP
  obtain ⟨ht2, hlt, E0, E3, E4, E8, E11, E5, E10, E12, h0, h1, h2, h3, hk, h11, hms⟩ := hP
  dsimp only at ht2 hlt E12 h11
  unfold reLp
  by_cases hturn : turn < 2
  case neg =>
    obtain rfl : turn = 2 := by omega
    have e4 : (encs u64A xs ++ [AV.int .u64 77]).length = xs.length + 1 := by rw [List.length_append, encs_length]; simp
    have e5 : List.drop xs.length (encs u64A xs ++ [AV.int .u64 77]) = [.int .u64 77] := List.drop_left' (by rw [encs_length]; simp)
    have hsl : ((xs.length : Int) + 1).toNat = xs.length + 1 := by omega
    unfold reTl
    obtain ⟨H', hlv, hkeep⟩ := leave_marks (tab := tab) (cb := cbL tab) (u := .returning) (ds := df) (H := H.set 1 (.cells [.bool true])) (hms.mono fun j _ hj => by rw [set_ne (by rintro rfl; rw [h1] at hj; cases hj)]; exact hj)
    have hr := hkeep 1 _ (set_eq h1) (by intro e; cases e)
    have sm := fun H => same_px xs xs [.int .u64 77] [] 1 1 .ro u1 H (by omega) (by omega) (fun _ => rfl) (fun _ => rfl) rfl rfl
    simp only [List.append_nil, decide_true] at sm
    simp (disch := omega) only [wk, avalE, aactE, evPE, boundE, asNat, bv_seql cellsEq_ii, bv_sneqd cellsEq_ii, readC, allOne, fillL, resE, tupled, ↓reduceIte, Nat.reduceEqDiff, Int.reduceEq, Int.reduceLT, Int.reduceLE, Nat.reduceAdd, Nat.reduceMul, Nat.reduceLT, Nat.reduceLeDiff, reduceCtorEq, E0, E3, E4, E8, E11, E5, E10, E12, h11, hsl, e4, e5, sm, works_px, h1, List.append_nil]
    rw [ends_left_ret hlv]
    simp (disch := omega) only [wk, avalE, aactE, evPE, boundE, asNat, bv_seql cellsEq_ii, bv_sneqd cellsEq_ii, readC, allOne, fillL, resE, tupled, ↓reduceIte, Nat.reduceEqDiff, Int.reduceEq, Int.reduceLT, Int.reduceLE, Nat.reduceAdd, Nat.reduceMul, Nat.reduceLT, Nat.reduceLeDiff, reduceCtorEq, E4, hr, purify, unownT, lend, unown, AV.hf]
  have e1 : ∀ o : AObj, (H ++ [o])[H.length]? = some o := fun o => by simp
  have h11' : ∀ o o' : AObj, ((H ++ [o]).set H.length o')[k11]? = some (.cells [.int .i64 (turn : Nat)]) := fun o o' => by
    have := (List.getElem?_eq_some_iff.1 h11).1
    rw [set_ne (by omega), List.getElem?_append_left this]; exact h11
  simp (disch := omega) only [wk, avalE, aactE, evPE, boundE, asNat, bv_seql cellsEq_ii, bv_sneqd cellsEq_ii, readC, allOne, fillL, resE, tupled, ↓reduceIte, Nat.reduceEqDiff, Int.reduceEq, Int.reduceLT, Int.reduceLE, Nat.reduceAdd, Nat.reduceMul, Nat.reduceLT, Nat.reduceLeDiff, reduceCtorEq, E0, E3, E4, E8, E11, E5, E10, E12, h11, e1, List.append_nil]
  generalize hH1 : (H ++ [AObj.cells [.int .i64 0]]).set H.length (.cells [.int .i64 0]) = H1
  have u1' : ∀ (i : Nat) (q : AObj), H[i]? = some q → H1[i]? = some q := fun i q hq => by
    have := (List.getElem?_eq_some_iff.1 hq).1
    rw [← hH1, set_ne (by omega), List.getElem?_append_left this]; exact hq
  have u2 : H1[H.length]? = some (.cells [.int .i64 0]) := by rw [← hH1]; exact set_eq (e1 _)
  have u3 : H1.length = H.length + 1 := by rw [← hH1]; simp
  refine ret_range (f := 68) (caps := [.ptr k0 0]) (by simp only [en, ↓reduceIte, Nat.reduceEqDiff, evE_t, E10]) (fun tm ha => ?_)
  have hkey : ∀ ds : List ADf, Marks H ds → ∀ k, ADf.mark k ∈ ds → k < H.length := by
    intro ds
    induction ds with
    | nil => intro _ k hk; simp at hk
    | cons d r ih =>
      intro hm k hk
      cases d with
      | call f a => exact hm.elim
      | mark j =>
        rcases List.mem_cons.1 hk with e | e
        · cases e; exact (List.getElem?_eq_some_iff.1 hm.1).1
        · exact ih hm.2.2 k e
  have l3 : 5 < H.length := by have := (List.getElem?_eq_some_iff.1 h11).1; omega
  have l11 := (List.getElem?_eq_some_iff.1 h11).1
  have ys := re_ys (old := [(k0, .cells [.sl 1 xs.length (encs u64A xs ++ [.int .u64 77]) .ro])]) (turn := (turn : Nat)) (many := many) (nd := nd) (at_ := L.map (fun p => (p.1 : Int))) (k11 := k11) (k12 := H.length) (id := H1.length + 1) (ms := .mark H1.length :: df) L hL hnd rfl ha (by simp only [en, ↓reduceIte, Nat.reduceEqDiff, E3]) (by simp only [en, ↓reduceIte, Nat.reduceEqDiff, E4]) (by simp only [en, ↓reduceIte, Nat.reduceEqDiff, E8]) (by simp only [en, ↓reduceIte, Nat.reduceEqDiff, E11]) (by simp only [en, ↓reduceIte, Nat.reduceEqDiff, E12]) (by simp only [en, ↓reduceIte, Nat.reduceEqDiff]) (by omega) (by omega) (by omega) (by
    have a1 := (List.getElem?_eq_some_iff.1 hk).1
    intro p hp
    simp only [List.mem_cons, List.not_mem_nil, or_false] at hp
    subst hp
    simp only
    omega) (by
    intro j hj
    rcases List.mem_cons.1 hj with e | e
    · cases e; omega
    · have := hkey df hms j e
      omega)
  have up : ∀ (i : Nat) (q : AObj), H1[i]? = some q → (H1 ++ [.defd, .loop 0 .normal tm [70, 71] reAs reBd])[i]? = some q := fun i q hq => by
    rw [List.getElem?_append_left (List.getElem?_eq_some_iff.1 hq).1]; exact hq
  have hd1 : (H1 ++ [.defd, .loop 0 .normal tm [70, 71] reAs reBd])[H1.length]? = some .defd := by simp
  have hd2 : (H1 ++ [.defd, .loop 0 .normal tm [70, 71] reAs reBd])[H1.length + 1]? = some (.loop 0 .normal tm [70, 71] reAs reBd) := by simp
  have hR0 : ReR [(k0, .cells [.sl 1 xs.length (encs u64A xs ++ [.int .u64 77]) .ro])] (turn : Nat) many nd (L.map (fun p => (p.1 : Int))) k11 H.length (H1.length + 1) tm (.mark H1.length :: df) (0, false) (H1 ++ [.defd, .loop 0 .normal tm [70, 71] reAs reBd]) :=
    ⟨up _ _ (u1' _ _ h0), up _ _ (u1' _ _ h1), up _ _ (u1' _ _ h2), up _ _ (u1' _ _ h3), up _ _ (u1' _ _ h11), up _ _ u2, hd2, ⟨hd1, (by
      intro hm
      have := hkey _ hms _ hm
      omega), hms.mono fun j _ hj => up _ _ (u1' _ _ hj)⟩, (by
      intro p hp
      simp only [List.mem_cons, List.not_mem_nil, or_false] at hp
      subst hp
      exact up _ _ (u1' _ _ hk))⟩
  obtain ⟨o, H2, hic, rfl, hR, hle⟩ : ∃ o H', (cbL tab).ic 68 [.yld (H1.length + 1), .ptr k0 0] (H1 ++ [.defd, .loop 0 .normal tm [70, 71] reAs reBd]) = some (o, H') ∧ o = .ret (.tup []) ∧
      ReR [(k0, .cells [.sl 1 xs.length (encs u64A xs ++ [.int .u64 77]) .ro])] (turn : Nat) many nd (L.map (fun p => (p.1 : Int))) k11 H.length (H1.length + 1) tm (.mark H1.length :: df) (runY (reStp (turn : Nat) many) (0, false) L) H' ∧ (H1 ++ [AObj.defd, AObj.loop 0 .normal tm [70, 71] reAs reBd]).length ≤ H'.length := by
    rcases hcase with ⟨hL0, hof⟩ | ⟨h, ps, q1, q2, q3, q4, q5, q6⟩
    · subst hL0
      exact neach1_no ys (by simp) hR0 (up _ _ (u1' _ _ hk)) hof
    · subst q6
      rw [q4, q5, words_rest] at hk
      exact neach1_yes ys (by simp) hR0 q1 q2 q3 rfl (up _ _ (u1' _ _ hk)) rfl (re_ok _ _ _ _ 0 rfl)
  have hM : ∃ M : Int, (1 < many ∧ M = many) ∨ (many ≤ 1 ∧ M = 1) := by
    by_cases h : 1 < many
    · exact ⟨many, .inl ⟨h, rfl⟩⟩
    · exact ⟨1, .inr ⟨by omega, rfl⟩⟩
  obtain ⟨M, hM⟩ := hM
  obtain ⟨hrun0, hrun1⟩ := re_run (turn : Nat) many M hM L L 0 rfl (Nat.zero_le _) (.inl rfl)
  generalize runY (reStp (turn : Nat) many) (0, false) L = fs at hR hrun0 hrun1
  obtain ⟨N, b⟩ := fs
  have hlo := hR.lo
  have s0 : ∀ lo' i (q : AObj), H2[i]? = some q → i ≠ H1.length + 1 → (H2.set (H1.length + 1) lo')[i]? = some q := fun lo' i q hq hne => by rw [set_ne (fun e => hne e.symm)]; exact hq
  have l2 : H1.length + 1 < H2.length := (List.getElem?_eq_some_iff.1 hlo).1
  have hge : ∀ lo', (H2.set (H1.length + 1) lo').length = H2.length := fun lo' => List.length_set
  have m0 := fun lo' => s0 lo' _ _ hR.many (by omega)
  have m1 := fun lo' => s0 lo' _ _ hR.res (by omega)
  have m2 := fun lo' => s0 lo' _ _ hR.want (by omega)
  have m3 := fun lo' => s0 lo' _ _ hR.at_ (by omega)
  have m4 := fun lo' => s0 lo' _ _ hR.turn (by omega)
  have m5 := fun lo' => s0 lo' _ _ hR.n (by omega)
  simp only at m5
  have hN0 : turn = 0 → (N : Int) = if (L.length : Int) ≤ M then (L.length : Int) else M := fun h => hrun0 (by omega)
  have hN1 : turn = 1 → N = L.length := fun h => by have := hrun1 (by omega); exact (Prod.mk.inj this).1
  rw [es2] at m2
  have ht01 : turn = 0 ∨ turn = 1 := by omega
  have hms3 : ∀ lo', (lo' ≠ AObj.defd) → Marks (H2.set (H1.length + 1) lo') (.mark H1.length :: df) := fun lo' _ => hR.ms.mono fun j _ hj => by
    rw [set_ne (by rintro rfl; rw [hlo] at hj; split at hj <;> cases hj)]
    exact hj
  cases b with
  | true =>
    simp only [if_true] at hlo
    refine ⟨_, H2, _, _, _, _, _, _, hic, readLoop_of hlo, by decide, rfl, ?_⟩
    have nk := s0 (.loop 3 (.exit 2) tm [70, 71] reAs reBd) _ _ (hR.old (k0, .cells [.sl 1 xs.length (encs u64A xs ++ [.int .u64 77]) .ro]) (by simp)) (by have := (List.getElem?_eq_some_iff.1 hk).1; simp only; omega)
    simp only at nk
    have n0 := m0 (.loop 3 (.exit 2) tm [70, 71] reAs reBd)
    have n1 := m1 (.loop 3 (.exit 2) tm [70, 71] reAs reBd)
    have n2 := m2 (.loop 3 (.exit 2) tm [70, 71] reAs reBd)
    have n2' := s0 (.loop 3 (.exit 2) tm [70, 71] reAs reBd) _ _ hR.want (by omega)
    have n3 := m3 (.loop 3 (.exit 2) tm [70, 71] reAs reBd)
    have n4 := m4 (.loop 3 (.exit 2) tm [70, 71] reAs reBd)
    have n5 := m5 (.loop 3 (.exit 2) tm [70, 71] reAs reBd)
    have nms := hms3 (.loop 3 (.exit 2) tm [70, 71] reAs reBd) (by intro e; cases e)
    have nl := hge (.loop 3 (.exit 2) tm [70, 71] reAs reBd)
    generalize H2.set (H1.length + 1) (.loop 3 (.exit 2) tm [70, 71] reAs reBd) = H3 at n0 n1 n2 n2' n3 n4 n5 nms nl nk ⊢
    have k11lt := (List.getElem?_eq_some_iff.1 n4).1
    have e1 : ∀ o : AObj, (H3 ++ [o])[H3.length]? = some o := fun o => by simp
    have e2 : ∀ o o' : AObj, ((H3 ++ [o]).set H3.length o')[H3.length]? = some o' := fun o o' => by simp
    have fk : ∀ (i : Nat) (q o o' o'' : AObj), H3[i]? = some q → (((H3 ++ [o]).set H3.length o').set H3.length o'')[i]? = some q := fun i q o o' o'' hq => by
      have := (List.getElem?_eq_some_iff.1 hq).1
      rw [set_ne (by omega), set_ne (by omega), List.getElem?_append_left this]; exact hq
    have done : ∀ E', E' 0 = .sl 1 xs.length (encs u64A xs) u1 → E' 3 = .ptr 0 0 → E' 4 = .ptr 1 0 → E' 8 = .ptr 3 0 → E' 11 = .ptr 5 0 → E' 5 = .sl 1 xs.length (encs u64A xs ++ [.int .u64 77]) .ro → E' 10 = .fn 68 [.ptr k0 0] → E' 12 = .ptr H3.length 0 → ∀ o o', 
        Ret (cbL tab) none 145 (Am.Ends tab [.cell 4 1 false] fun o H => purify (some (o, H)) = some (.plain (.bool true))) [.again (.loop reLp), .blk 0, .code reTl] .normal E' (.mark H1.length :: df) (((H3 ++ [o]).set H3.length o').set H3.length (.cells [.int .i64 ((turn : Int) + 1)])) := by
      intro E' a1 a5 a6 a7 a8 a9 a10 a11 o o'
      exact ih (turn + 1, H3.length) _ _ _ (by simp only; omega) ⟨by simp only; omega, by omega, a1, a5, a6, a7, a8, a9, a10, a11, fk _ _ _ _ _ n0, fk _ _ _ _ _ n1, fk _ _ _ _ _ n2', fk _ _ _ _ _ n3, fk _ _ _ _ _ nk, set_eq (e2 _ _), nms.mono fun j _ hj => fk _ _ _ _ _ hj⟩
    rcases ht01 with rfl | rfl
    · have hNv := hN0 rfl
      by_cases hc1 : 1 < many
      · obtain rfl : M = many := by omega
        by_cases hc2 : (L.length : Int) ≤ M
        · have hNv : (N : Int) = L.length := by rw [hNv, if_pos hc2]
          simp (disch := omega) only [wk, avalE, aactE, evPE, boundE, asNat, bv_seql cellsEq_ii, bv_sneqd cellsEq_ii, readC, allOne, fillL, resE, tupled, ↓reduceIte, Nat.reduceEqDiff, Int.reduceEq, Int.reduceLT, Int.reduceLE, Nat.reduceAdd, Nat.reduceMul, Nat.reduceLT, Nat.reduceLeDiff, reduceCtorEq, E3, E4, E8, E11, E12, n0, n1, n2, n3, n4, n5, hml, hNv, e1, e2, List.append_nil]
          exact done _ (by simp only [en, ↓reduceIte, Nat.reduceEqDiff, E0]) (by simp only [en, ↓reduceIte, Nat.reduceEqDiff, E3]) (by simp only [en, ↓reduceIte, Nat.reduceEqDiff, E4]) (by simp only [en, ↓reduceIte, Nat.reduceEqDiff, E8]) (by simp only [en, ↓reduceIte, Nat.reduceEqDiff, E11]) (by simp only [en, ↓reduceIte, Nat.reduceEqDiff, E5]) (by simp only [en, ↓reduceIte, Nat.reduceEqDiff, E10]) (by simp only [en, ↓reduceIte, Nat.reduceEqDiff]) _ _
        · have hNv : (N : Int) = M := by rw [hNv, if_neg hc2]
          simp (disch := omega) only [wk, avalE, aactE, evPE, boundE, asNat, bv_seql cellsEq_ii, bv_sneqd cellsEq_ii, readC, allOne, fillL, resE, tupled, ↓reduceIte, Nat.reduceEqDiff, Int.reduceEq, Int.reduceLT, Int.reduceLE, Nat.reduceAdd, Nat.reduceMul, Nat.reduceLT, Nat.reduceLeDiff, reduceCtorEq, E3, E4, E8, E11, E12, n0, n1, n2, n3, n4, n5, hml, hNv, e1, e2, List.append_nil]
          exact done _ (by simp only [en, ↓reduceIte, Nat.reduceEqDiff, E0]) (by simp only [en, ↓reduceIte, Nat.reduceEqDiff, E3]) (by simp only [en, ↓reduceIte, Nat.reduceEqDiff, E4]) (by simp only [en, ↓reduceIte, Nat.reduceEqDiff, E8]) (by simp only [en, ↓reduceIte, Nat.reduceEqDiff, E11]) (by simp only [en, ↓reduceIte, Nat.reduceEqDiff, E5]) (by simp only [en, ↓reduceIte, Nat.reduceEqDiff, E10]) (by simp only [en, ↓reduceIte, Nat.reduceEqDiff]) _ _
      · obtain rfl : M = 1 := by omega
        by_cases hc2 : (L.length : Int) ≤ 1
        · have hNv : (N : Int) = L.length := by rw [hNv, if_pos hc2]
          simp (disch := omega) only [wk, avalE, aactE, evPE, boundE, asNat, bv_seql cellsEq_ii, bv_sneqd cellsEq_ii, readC, allOne, fillL, resE, tupled, ↓reduceIte, Nat.reduceEqDiff, Int.reduceEq, Int.reduceLT, Int.reduceLE, Nat.reduceAdd, Nat.reduceMul, Nat.reduceLT, Nat.reduceLeDiff, reduceCtorEq, E3, E4, E8, E11, E12, n0, n1, n2, n3, n4, n5, hml, hNv, e1, e2, List.append_nil]
          exact done _ (by simp only [en, ↓reduceIte, Nat.reduceEqDiff, E0]) (by simp only [en, ↓reduceIte, Nat.reduceEqDiff, E3]) (by simp only [en, ↓reduceIte, Nat.reduceEqDiff, E4]) (by simp only [en, ↓reduceIte, Nat.reduceEqDiff, E8]) (by simp only [en, ↓reduceIte, Nat.reduceEqDiff, E11]) (by simp only [en, ↓reduceIte, Nat.reduceEqDiff, E5]) (by simp only [en, ↓reduceIte, Nat.reduceEqDiff, E10]) (by simp only [en, ↓reduceIte, Nat.reduceEqDiff]) _ _
        · have hNv : (N : Int) = 1 := by rw [hNv, if_neg hc2]
          simp (disch := omega) only [wk, avalE, aactE, evPE, boundE, asNat, bv_seql cellsEq_ii, bv_sneqd cellsEq_ii, readC, allOne, fillL, resE, tupled, ↓reduceIte, Nat.reduceEqDiff, Int.reduceEq, Int.reduceLT, Int.reduceLE, Nat.reduceAdd, Nat.reduceMul, Nat.reduceLT, Nat.reduceLeDiff, reduceCtorEq, E3, E4, E8, E11, E12, n0, n1, n2, n3, n4, n5, hml, hNv, e1, e2, List.append_nil]
          exact done _ (by simp only [en, ↓reduceIte, Nat.reduceEqDiff, E0]) (by simp only [en, ↓reduceIte, Nat.reduceEqDiff, E3]) (by simp only [en, ↓reduceIte, Nat.reduceEqDiff, E4]) (by simp only [en, ↓reduceIte, Nat.reduceEqDiff, E8]) (by simp only [en, ↓reduceIte, Nat.reduceEqDiff, E11]) (by simp only [en, ↓reduceIte, Nat.reduceEqDiff, E5]) (by simp only [en, ↓reduceIte, Nat.reduceEqDiff, E10]) (by simp only [en, ↓reduceIte, Nat.reduceEqDiff]) _ _
    · have hNv := hN1 rfl
      subst hNv
      simp (disch := omega) only [wk, avalE, aactE, evPE, boundE, asNat, bv_seql cellsEq_ii, bv_sneqd cellsEq_ii, readC, allOne, fillL, resE, tupled, ↓reduceIte, Nat.reduceEqDiff, Int.reduceEq, Int.reduceLT, Int.reduceLE, Nat.reduceAdd, Nat.reduceMul, Nat.reduceLT, Nat.reduceLeDiff, reduceCtorEq, E3, E4, E8, E11, E12, n0, n1, n2, n3, n4, n5, hml, e1, e2, List.append_nil]
      exact done _ (by simp only [en, ↓reduceIte, Nat.reduceEqDiff, E0]) (by simp only [en, ↓reduceIte, Nat.reduceEqDiff, E3]) (by simp only [en, ↓reduceIte, Nat.reduceEqDiff, E4]) (by simp only [en, ↓reduceIte, Nat.reduceEqDiff, E8]) (by simp only [en, ↓reduceIte, Nat.reduceEqDiff, E11]) (by simp only [en, ↓reduceIte, Nat.reduceEqDiff, E5]) (by simp only [en, ↓reduceIte, Nat.reduceEqDiff, E10]) (by simp only [en, ↓reduceIte, Nat.reduceEqDiff]) _ _
  | false =>
    simp only [Bool.false_eq_true, if_false] at hlo
    refine ⟨_, H2, _, _, _, _, _, _, hic, readLoop_of hlo, by decide, rfl, ?_⟩
    have nk := s0 (.loop 3 .normal tm [70, 71] reAs reBd) _ _ (hR.old (k0, .cells [.sl 1 xs.length (encs u64A xs ++ [.int .u64 77]) .ro]) (by simp)) (by have := (List.getElem?_eq_some_iff.1 hk).1; simp only; omega)
    simp only at nk
    have n0 := m0 (.loop 3 .normal tm [70, 71] reAs reBd)
    have n1 := m1 (.loop 3 .normal tm [70, 71] reAs reBd)
    have n2 := m2 (.loop 3 .normal tm [70, 71] reAs reBd)
    have n2' := s0 (.loop 3 .normal tm [70, 71] reAs reBd) _ _ hR.want (by omega)
    have n3 := m3 (.loop 3 .normal tm [70, 71] reAs reBd)
    have n4 := m4 (.loop 3 .normal tm [70, 71] reAs reBd)
    have n5 := m5 (.loop 3 .normal tm [70, 71] reAs reBd)
    have nms := hms3 (.loop 3 .normal tm [70, 71] reAs reBd) (by intro e; cases e)
    have nl := hge (.loop 3 .normal tm [70, 71] reAs reBd)
    generalize H2.set (H1.length + 1) (.loop 3 .normal tm [70, 71] reAs reBd) = H3 at n0 n1 n2 n2' n3 n4 n5 nms nl nk ⊢
    have k11lt := (List.getElem?_eq_some_iff.1 n4).1
    have e1 : ∀ o : AObj, (H3 ++ [o])[H3.length]? = some o := fun o => by simp
    have e2 : ∀ o o' : AObj, ((H3 ++ [o]).set H3.length o')[H3.length]? = some o' := fun o o' => by simp
    have fk : ∀ (i : Nat) (q o o' o'' : AObj), H3[i]? = some q → (((H3 ++ [o]).set H3.length o').set H3.length o'')[i]? = some q := fun i q o o' o'' hq => by
      have := (List.getElem?_eq_some_iff.1 hq).1
      rw [set_ne (by omega), set_ne (by omega), List.getElem?_append_left this]; exact hq
    have done : ∀ E', E' 0 = .sl 1 xs.length (encs u64A xs) u1 → E' 3 = .ptr 0 0 → E' 4 = .ptr 1 0 → E' 8 = .ptr 3 0 → E' 11 = .ptr 5 0 → E' 5 = .sl 1 xs.length (encs u64A xs ++ [.int .u64 77]) .ro → E' 10 = .fn 68 [.ptr k0 0] → E' 12 = .ptr H3.length 0 → ∀ o o', 
        Ret (cbL tab) none 145 (Am.Ends tab [.cell 4 1 false] fun o H => purify (some (o, H)) = some (.plain (.bool true))) [.again (.loop reLp), .blk 0, .code reTl] .normal E' (.mark H1.length :: df) (((H3 ++ [o]).set H3.length o').set H3.length (.cells [.int .i64 ((turn : Int) + 1)])) := by
      intro E' a1 a5 a6 a7 a8 a9 a10 a11 o o'
      exact ih (turn + 1, H3.length) _ _ _ (by simp only; omega) ⟨by simp only; omega, by omega, a1, a5, a6, a7, a8, a9, a10, a11, fk _ _ _ _ _ n0, fk _ _ _ _ _ n1, fk _ _ _ _ _ n2', fk _ _ _ _ _ n3, fk _ _ _ _ _ nk, set_eq (e2 _ _), nms.mono fun j _ hj => fk _ _ _ _ _ hj⟩
    rcases ht01 with rfl | rfl
    · have hNv := hN0 rfl
      by_cases hc1 : 1 < many
      · obtain rfl : M = many := by omega
        by_cases hc2 : (L.length : Int) ≤ M
        · have hNv : (N : Int) = L.length := by rw [hNv, if_pos hc2]
          simp (disch := omega) only [wk, avalE, aactE, evPE, boundE, asNat, bv_seql cellsEq_ii, bv_sneqd cellsEq_ii, readC, allOne, fillL, resE, tupled, ↓reduceIte, Nat.reduceEqDiff, Int.reduceEq, Int.reduceLT, Int.reduceLE, Nat.reduceAdd, Nat.reduceMul, Nat.reduceLT, Nat.reduceLeDiff, reduceCtorEq, E3, E4, E8, E11, E12, n0, n1, n2, n3, n4, n5, hml, hNv, e1, e2, List.append_nil]
          exact done _ (by simp only [en, ↓reduceIte, Nat.reduceEqDiff, E0]) (by simp only [en, ↓reduceIte, Nat.reduceEqDiff, E3]) (by simp only [en, ↓reduceIte, Nat.reduceEqDiff, E4]) (by simp only [en, ↓reduceIte, Nat.reduceEqDiff, E8]) (by simp only [en, ↓reduceIte, Nat.reduceEqDiff, E11]) (by simp only [en, ↓reduceIte, Nat.reduceEqDiff, E5]) (by simp only [en, ↓reduceIte, Nat.reduceEqDiff, E10]) (by simp only [en, ↓reduceIte, Nat.reduceEqDiff]) _ _
        · have hNv : (N : Int) = M := by rw [hNv, if_neg hc2]
          simp (disch := omega) only [wk, avalE, aactE, evPE, boundE, asNat, bv_seql cellsEq_ii, bv_sneqd cellsEq_ii, readC, allOne, fillL, resE, tupled, ↓reduceIte, Nat.reduceEqDiff, Int.reduceEq, Int.reduceLT, Int.reduceLE, Nat.reduceAdd, Nat.reduceMul, Nat.reduceLT, Nat.reduceLeDiff, reduceCtorEq, E3, E4, E8, E11, E12, n0, n1, n2, n3, n4, n5, hml, hNv, e1, e2, List.append_nil]
          exact done _ (by simp only [en, ↓reduceIte, Nat.reduceEqDiff, E0]) (by simp only [en, ↓reduceIte, Nat.reduceEqDiff, E3]) (by simp only [en, ↓reduceIte, Nat.reduceEqDiff, E4]) (by simp only [en, ↓reduceIte, Nat.reduceEqDiff, E8]) (by simp only [en, ↓reduceIte, Nat.reduceEqDiff, E11]) (by simp only [en, ↓reduceIte, Nat.reduceEqDiff, E5]) (by simp only [en, ↓reduceIte, Nat.reduceEqDiff, E10]) (by simp only [en, ↓reduceIte, Nat.reduceEqDiff]) _ _
      · obtain rfl : M = 1 := by omega
        by_cases hc2 : (L.length : Int) ≤ 1
        · have hNv : (N : Int) = L.length := by rw [hNv, if_pos hc2]
          simp (disch := omega) only [wk, avalE, aactE, evPE, boundE, asNat, bv_seql cellsEq_ii, bv_sneqd cellsEq_ii, readC, allOne, fillL, resE, tupled, ↓reduceIte, Nat.reduceEqDiff, Int.reduceEq, Int.reduceLT, Int.reduceLE, Nat.reduceAdd, Nat.reduceMul, Nat.reduceLT, Nat.reduceLeDiff, reduceCtorEq, E3, E4, E8, E11, E12, n0, n1, n2, n3, n4, n5, hml, hNv, e1, e2, List.append_nil]
          exact done _ (by simp only [en, ↓reduceIte, Nat.reduceEqDiff, E0]) (by simp only [en, ↓reduceIte, Nat.reduceEqDiff, E3]) (by simp only [en, ↓reduceIte, Nat.reduceEqDiff, E4]) (by simp only [en, ↓reduceIte, Nat.reduceEqDiff, E8]) (by simp only [en, ↓reduceIte, Nat.reduceEqDiff, E11]) (by simp only [en, ↓reduceIte, Nat.reduceEqDiff, E5]) (by simp only [en, ↓reduceIte, Nat.reduceEqDiff, E10]) (by simp only [en, ↓reduceIte, Nat.reduceEqDiff]) _ _
        · have hNv : (N : Int) = 1 := by rw [hNv, if_neg hc2]
          simp (disch := omega) only [wk, avalE, aactE, evPE, boundE, asNat, bv_seql cellsEq_ii, bv_sneqd cellsEq_ii, readC, allOne, fillL, resE, tupled, ↓reduceIte, Nat.reduceEqDiff, Int.reduceEq, Int.reduceLT, Int.reduceLE, Nat.reduceAdd, Nat.reduceMul, Nat.reduceLT, Nat.reduceLeDiff, reduceCtorEq, E3, E4, E8, E11, E12, n0, n1, n2, n3, n4, n5, hml, hNv, e1, e2, List.append_nil]
          exact done _ (by simp only [en, ↓reduceIte, Nat.reduceEqDiff, E0]) (by simp only [en, ↓reduceIte, Nat.reduceEqDiff, E3]) (by simp only [en, ↓reduceIte, Nat.reduceEqDiff, E4]) (by simp only [en, ↓reduceIte, Nat.reduceEqDiff, E8]) (by simp only [en, ↓reduceIte, Nat.reduceEqDiff, E11]) (by simp only [en, ↓reduceIte, Nat.reduceEqDiff, E5]) (by simp only [en, ↓reduceIte, Nat.reduceEqDiff, E10]) (by simp only [en, ↓reduceIte, Nat.reduceEqDiff]) _ _
    · have hNv := hN1 rfl
      subst hNv
      simp (disch := omega) only [wk, avalE, aactE, evPE, boundE, asNat, bv_seql cellsEq_ii, bv_sneqd cellsEq_ii, readC, allOne, fillL, resE, tupled, ↓reduceIte, Nat.reduceEqDiff, Int.reduceEq, Int.reduceLT, Int.reduceLE, Nat.reduceAdd, Nat.reduceMul, Nat.reduceLT, Nat.reduceLeDiff, reduceCtorEq, E3, E4, E8, E11, E12, n0, n1, n2, n3, n4, n5, hml, e1, e2, List.append_nil]
      exact done _ (by simp only [en, ↓reduceIte, Nat.reduceEqDiff, E0]) (by simp only [en, ↓reduceIte, Nat.reduceEqDiff, E3]) (by simp only [en, ↓reduceIte, Nat.reduceEqDiff, E4]) (by simp only [en, ↓reduceIte, Nat.reduceEqDiff, E8]) (by simp only [en, ↓reduceIte, Nat.reduceEqDiff, E11]) (by simp only [en, ↓reduceIte, Nat.reduceEqDiff, E5]) (by simp only [en, ↓reduceIte, Nat.reduceEqDiff, E10]) (by simp only [en, ↓reduceIte, Nat.reduceEqDiff]) _ _
end Go.Proofs.Ytailfegmnkldoaa
