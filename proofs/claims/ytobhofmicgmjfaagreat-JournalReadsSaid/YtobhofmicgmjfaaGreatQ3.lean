/- TEXTS OF THE WALKS, put together: JR3 JR4 JR5 JR6 JR7 JR8 J15 JR9 JL0 LRd BG0 BG2. No condition but those stated. -/
import Derived.Test.YtobhofmicgmjfaaGreatQ2
import Derived.Test.YtobhofmicgmjfaaGreatAmOpen
import Derived.Shelf.Spec.SlicesGrow
import Derived.Test.YtobhofmicgmjfaaGreatProg
import Derived.WalkKit
import Derived.BigCall
import Derived.Below
import Derived.Laws.OwnMore
import Derived.Test.YtobhofmicgmjfaaGreatP1
import Derived.Test.YtobhofmicgmjfaaGreatAmTop
import Derived.Test.YtobhofmicgmjfaaGreatChecked
open Int (reduceEq)
open Nat (reduceEqDiff reduceAdd reduceMul reduceLT reduceLeDiff)
set_option linter.all false
set_option maxHeartbeats 4000000
set_option maxRecDepth 10000
namespace Go.Proofs.YtobhofmicgmjfaaGreat
open Go Go.Am Go.Rec Go.Ino
theorem mayR_1 {f : Frm} {r : Redo} (h : r.k = 1) : mayR f r ↔ (1 <= r.i /\ r.i <= f.i) /\ fileW r.ws = true /\ r.fr = 0 /\ r.to = 0 /\ r.fk = 0 /\ r.tk = 0 /\ r.rc = 0 /\ r.dir = false := by
 unfold mayR mayB
 constructor
 . rintro ⟨a, b | b⟩
   . exact ⟨a, b.2⟩
   . omega
 . exact fun h1 => ⟨h1.1, .inl ⟨h, h1.2⟩⟩
theorem mayR_2 {f : Frm} {r : Redo} (h : r.k = 2) : mayR f r ↔ (1 <= r.i /\ r.i <= f.i) /\ r.ws = ws0 /\ (1 <= r.fr /\ r.fr <= f.i) /\ (1 <= r.to /\ r.to <= f.i) /\ (1 <= r.rc /\ r.rc <= f.r) /\ (r.fr ≠ r.to ∨ r.fk ≠ r.tk) := by
 unfold mayR
 rw [mayB_2 h]
theorem rcheck21_px {f : Frm} {y : Ly} {r : Redo} (ht : RedT r) (H : Heap) : pcx (cbL tab) 17 [lyV f y, .agg (redA r)] H = some (.plain (.int .i64 (checkJ f y r))) := by
 have lr : ∀ H, pcx (cbL tab) 22 [lyV f y] H = some (.plain (.bool (decide (okY f y)))) := fun H => rright_all f y.k0 y.k1 y.c y.d y.e y.g H
 have wn : r.ws ≠ [] := by intro h; have := ht.wl; rw [h] at this; cases this
 have rl := fun H => rlist21_px r.ws ht.wl H
 rw [prRow_ne wn] at rl
 have hz := ceq_u r.ws ws0 (by rw [ht.wl]; rfl)
 have lw := ht.wl
 refine pcx_N rfl (pc_wp (fi := c17) rfl ?_ (by simp [c17]) (by decide) ?_)
 . simp only [pcOn, List.map_cons, List.map_nil, hfL, hf_lend_sl, hf_lend_int, hf_lend_bool, hf_lend_str, hfL_append, Bool.and_self, Bool.and_true, Bool.true_and, c17, lend_lyV, lend_redV, hf_lyV, hf_redV]
 rw [List.map_cons, List.map_cons, List.map_nil, lend_lyV, lend_redV]
 obtain ⟨w0, w1, w2, w3, w4, w5, w6, w7, w8, w9, w10, w11, w12, w13, w14, w15, hw⟩ := sixteen ht.wl
 have hw2 : encs u64A r.ws = [.int .u64 w0, .int .u64 w1, .int .u64 w2, .int .u64 w3, .int .u64 w4, .int .u64 w5, .int .u64 w6, .int .u64 w7, .int .u64 w8, .int .u64 w9, .int .u64 w10, .int .u64 w11, .int .u64 w12, .int .u64 w13, .int .u64 w14, .int .u64 w15] := by rw [hw]; rfl
 have hu := ht.wu
 rw [hw] at hu
 have wok : WOk w0 w1 w2 w3 [w4, w5, w6, w7, w8, w9, w10, w11, w12, w13, w14, w15] [] :=
   ⟨rfl, hu _ (by simp), hu _ (by simp), hu _ (by simp), hu _ (by simp), fun x hx => hu x (List.mem_cons_of_mem _ (List.mem_cons_of_mem _ (List.mem_cons_of_mem _ (List.mem_cons_of_mem _ hx)))), rfl⟩
 have fw : fileW r.ws = decide ((ofI w0 w1 w2 w3 [w4, w5, w6, w7, w8, w9, w10, w11, w12, w13, w14, w15]).2 = 0 /\ (ofI w0 w1 w2 w3 [w4, w5, w6, w7, w8, w9, w10, w11, w12, w13, w14, w15]).1.kind = 1) := by rw [hw]; rfl
 have op := fun tk H => rofI_px w0 w1 w2 w3 [w4, w5, w6, w7, w8, w9, w10, w11, w12, w13, w14, w15] _ tk H wok
 generalize ofI w0 w1 w2 w3 [w4, w5, w6, w7, w8, w9, w10, w11, w12, w13, w14, w15] = O at fw op
 obtain ⟨n, e⟩ := O
 dsimp only at fw op
 rw [ofIV_eq] at op
 have m1 := (MapR.of n.map).one.1
 have m2 := (MapR.of n.map).one.2
 generalize mapV n.map = M at op m1 m2
 have hq : ∀ xo yo, binV .eql (.struct [0, 0, 0, 0, 0, 0, 0, 0, 0, 0, 0, 0, 0, 0, 0, 0]) xo yo (.agg [.int .u64 w0, .int .u64 w1, .int .u64 w2, .int .u64 w3, .int .u64 w4, .int .u64 w5, .int .u64 w6, .int .u64 w7, .int .u64 w8, .int .u64 w9, .int .u64 w10, .int .u64 w11, .int .u64 w12, .int .u64 w13, .int .u64 w14, .int .u64 w15])
     (.agg [.int .u64 0, .int .u64 0, .int .u64 0, .int .u64 0, .int .u64 0, .int .u64 0, .int .u64 0, .int .u64 0, .int .u64 0, .int .u64 0, .int .u64 0, .int .u64 0, .int .u64 0, .int .u64 0, .int .u64 0, .int .u64 0]) = some (.bool (decide (r.ws = ws0))) := by
   intro xo yo
   rw [lw, hw2] at hz
   show (cellsEq _ _ _).map _ = _
   have hz' : cellsEq [0, 0, 0, 0, 0, 0, 0, 0, 0, 0, 0, 0, 0, 0, 0, 0] [.int .u64 w0, .int .u64 w1, .int .u64 w2, .int .u64 w3, .int .u64 w4, .int .u64 w5, .int .u64 w6, .int .u64 w7, .int .u64 w8, .int .u64 w9, .int .u64 w10, .int .u64 w11, .int .u64 w12, .int .u64 w13, .int .u64 w14, .int .u64 w15]
     [.int .u64 0, .int .u64 0, .int .u64 0, .int .u64 0, .int .u64 0, .int .u64 0, .int .u64 0, .int .u64 0, .int .u64 0, .int .u64 0, .int .u64 0, .int .u64 0, .int .u64 0, .int .u64 0, .int .u64 0, .int .u64 0] = _ := hz
   rw [hz']
   rfl
 have rp : List.replicate 16 (AV.int .u64 0) = [.int .u64 0, .int .u64 0, .int .u64 0, .int .u64 0, .int .u64 0, .int .u64 0, .int .u64 0, .int .u64 0, .int .u64 0, .int .u64 0, .int .u64 0, .int .u64 0, .int .u64 0, .int .u64 0, .int .u64 0, .int .u64 0] := rfl
 unfold arrV at rl
 rw [lw, hw2] at rl
 unfold wlit at op
 simp only [encs_cons, encs_nil, u64A, List.cons_append, List.nil_append] at op
 unfold inoA at op
 unfold c17
 rw [rp]
 unfold checkJ redA
 rw [hw2]
 have i0 := fun H => rthere21_px r.i f.i H
 have i1 := fun H => rthere21_px r.fr f.i H
 have i2 := fun H => rthere21_px r.to f.i H
 have i3 := fun H => rthere21_px r.rc f.r H
 clear hz hw hw2 rp hu wok wn ht lw
 by_cases h : okY f y
 case neg =>
   rw [decide_eq_false h] at lr
   rw [if_neg h]
   clear h
   unfold lyV lyA frmA at *
   simp only [List.cons_append, List.nil_append] at lr ⊢
   simp (disch := omega) only [wk, tupled, ↓reduceIte, reduceEqDiff, reduceEq, reduceAdd, reduceCtorEq, lr, purify, unownT, lend, unown, AV.hf, hfL, Tk.hf]
 rw [decide_eq_true h] at lr
 rw [if_pos h]
 clear h
 unfold lyV lyA frmA at *
 simp only [List.cons_append, List.nil_append] at lr ⊢
 by_cases k1 : r.k = 1
 . have hm := mayR_1 (f := f) k1
   by_cases c0 : 1 <= r.i /\ r.i <= f.i
   case neg =>
     have no : ¬ mayR f r := fun h => c0 (hm.1 h).1
     rw [if_neg no]
     rw [decide_eq_false c0] at i0
     clear no hm c0
     simp (disch := omega) only [wk, tupled, ↓reduceIte, reduceEqDiff, reduceEq, reduceAdd, reduceCtorEq, lr, rl, op, m1, m2, runG_un, hq, k1, i0, purify, unownT, lend, unown, AV.hf, hfL, Tk.hf]
   rw [decide_eq_true c0] at i0
   by_cases c1 : e = 0
   case neg =>
     have no : ¬ mayR f r := fun h => by have := (hm.1 h).2.1; rw [fw] at this; exact c1 (of_decide_eq_true this).1
     rw [if_neg no]
     clear no hm
     simp (disch := omega) only [wk, tupled, ↓reduceIte, reduceEqDiff, reduceEq, reduceAdd, reduceCtorEq, lr, rl, op, m1, m2, runG_un, hq, k1, i0, c1, purify, unownT, lend, unown, AV.hf, hfL, Tk.hf]
   by_cases c2 : n.kind = 1
   case neg =>
     have no : ¬ mayR f r := fun h => by have := (hm.1 h).2.1; rw [fw] at this; exact c2 (of_decide_eq_true this).2
     rw [if_neg no]
     clear no hm
     simp (disch := omega) only [wk, tupled, ↓reduceIte, reduceEqDiff, reduceEq, reduceAdd, reduceCtorEq, lr, rl, op, m1, m2, runG_un, hq, k1, i0, c1, c2, purify, unownT, lend, unown, AV.hf, hfL, Tk.hf]
   by_cases c3 : r.fr = 0
   case neg =>
     have no : ¬ mayR f r := fun h => c3 (hm.1 h).2.2.1
     rw [if_neg no]
     clear no hm
     simp (disch := omega) only [wk, tupled, ↓reduceIte, reduceEqDiff, reduceEq, reduceAdd, reduceCtorEq, lr, rl, op, m1, m2, runG_un, hq, k1, i0, c1, c2, c3, purify, unownT, lend, unown, AV.hf, hfL, Tk.hf]
   by_cases c4 : r.to = 0
   case neg =>
     have no : ¬ mayR f r := fun h => c4 (hm.1 h).2.2.2.1
     rw [if_neg no]
     clear no hm
     simp (disch := omega) only [wk, tupled, ↓reduceIte, reduceEqDiff, reduceEq, reduceAdd, reduceCtorEq, lr, rl, op, m1, m2, runG_un, hq, k1, i0, c1, c2, c3, c4, purify, unownT, lend, unown, AV.hf, hfL, Tk.hf]
   by_cases c5 : r.fk = 0
   case neg =>
     have no : ¬ mayR f r := fun h => c5 (hm.1 h).2.2.2.2.1
     rw [if_neg no]
     clear no hm
     simp (disch := omega) only [wk, tupled, ↓reduceIte, reduceEqDiff, reduceEq, reduceAdd, reduceCtorEq, lr, rl, op, m1, m2, runG_un, hq, k1, i0, c1, c2, c3, c4, c5, purify, unownT, lend, unown, AV.hf, hfL, Tk.hf]
   by_cases c6 : r.tk = 0
   case neg =>
     have no : ¬ mayR f r := fun h => c6 (hm.1 h).2.2.2.2.2.1
     rw [if_neg no]
     clear no hm
     simp (disch := omega) only [wk, tupled, ↓reduceIte, reduceEqDiff, reduceEq, reduceAdd, reduceCtorEq, lr, rl, op, m1, m2, runG_un, hq, k1, i0, c1, c2, c3, c4, c5, c6, purify, unownT, lend, unown, AV.hf, hfL, Tk.hf]
   by_cases c7 : r.rc = 0
   case neg =>
     have no : ¬ mayR f r := fun h => c7 (hm.1 h).2.2.2.2.2.2.1
     rw [if_neg no]
     clear no hm
     simp (disch := omega) only [wk, tupled, ↓reduceIte, reduceEqDiff, reduceEq, reduceAdd, reduceCtorEq, lr, rl, op, m1, m2, runG_un, hq, k1, i0, c1, c2, c3, c4, c5, c6, c7, purify, unownT, lend, unown, AV.hf, hfL, Tk.hf]
   by_cases c8 : r.dir = false
   case neg =>
     have no : ¬ mayR f r := fun h => c8 (hm.1 h).2.2.2.2.2.2.2
     rw [if_neg no]
     clear no hm
     simp (disch := omega) only [wk, tupled, ↓reduceIte, reduceEqDiff, reduceEq, reduceAdd, reduceCtorEq, lr, rl, op, m1, m2, runG_un, hq, k1, i0, c1, c2, c3, c4, c5, c6, c7, Bool.not_eq_false, c8, purify, unownT, lend, unown, AV.hf, hfL, Tk.hf]
   have yes : mayR f r := hm.2 ⟨c0, by rw [fw]; exact decide_eq_true ⟨c1, c2⟩, c3, c4, c5, c6, c7, c8⟩
   rw [if_pos yes]
   clear yes hm c0
   simp (disch := omega) only [wk, tupled, ↓reduceIte, reduceEqDiff, reduceEq, reduceAdd, reduceCtorEq, lr, rl, op, m1, m2, runG_un, hq, k1, i0, c1, c2, c3, c4, c5, c6, c7, c8, Bool.not_false, purify, unownT, lend, unown, AV.hf, hfL, Tk.hf]
 by_cases k2 : r.k = 2
 . have hm := mayR_2 (f := f) k2
   by_cases c0 : 1 <= r.i /\ r.i <= f.i
   case neg =>
     have no : ¬ mayR f r := fun h => c0 (hm.1 h).1
     rw [if_neg no]
     rw [decide_eq_false c0] at i0
     clear no hm c0 k1
     simp (disch := omega) only [wk, tupled, ↓reduceIte, reduceEqDiff, reduceEq, reduceAdd, reduceCtorEq, lr, rl, op, m1, m2, runG_un, hq, k2, i0, purify, unownT, lend, unown, AV.hf, hfL, Tk.hf]
   rw [decide_eq_true c0] at i0
   by_cases c1 : r.ws = ws0
   case neg =>
     have no : ¬ mayR f r := fun h => c1 (hm.1 h).2.1
     rw [if_neg no]
     rw [decide_eq_false c1] at hq
     clear no hm c1 c0 k1
     simp (disch := omega) only [wk, tupled, ↓reduceIte, reduceEqDiff, reduceEq, reduceAdd, reduceCtorEq, lr, rl, op, m1, m2, runG_un, hq, k2, i0, purify, unownT, lend, unown, AV.hf, hfL, Tk.hf]
   rw [decide_eq_true c1] at hq
   by_cases c2 : 1 <= r.fr /\ r.fr <= f.i
   case neg =>
     have no : ¬ mayR f r := fun h => c2 (hm.1 h).2.2.1
     rw [if_neg no]
     rw [decide_eq_false c2] at i1
     clear no hm c2 c0 k1
     simp (disch := omega) only [wk, tupled, ↓reduceIte, reduceEqDiff, reduceEq, reduceAdd, reduceCtorEq, lr, rl, op, m1, m2, runG_un, hq, k2, i0, i1, purify, unownT, lend, unown, AV.hf, hfL, Tk.hf]
   rw [decide_eq_true c2] at i1
   by_cases c3 : 1 <= r.to /\ r.to <= f.i
   case neg =>
     have no : ¬ mayR f r := fun h => c3 (hm.1 h).2.2.2.1
     rw [if_neg no]
     rw [decide_eq_false c3] at i2
     clear no hm c3 c0 k1
     simp (disch := omega) only [wk, tupled, ↓reduceIte, reduceEqDiff, reduceEq, reduceAdd, reduceCtorEq, lr, rl, op, m1, m2, runG_un, hq, k2, i0, i1, i2, purify, unownT, lend, unown, AV.hf, hfL, Tk.hf]
   rw [decide_eq_true c3] at i2
   by_cases c4 : 1 <= r.rc /\ r.rc <= f.r
   case neg =>
     have no : ¬ mayR f r := fun h => c4 (hm.1 h).2.2.2.2.1
     rw [if_neg no]
     rw [decide_eq_false c4] at i3
     clear no hm c4 c0 k1
     simp (disch := omega) only [wk, tupled, ↓reduceIte, reduceEqDiff, reduceEq, reduceAdd, reduceCtorEq, lr, rl, op, m1, m2, runG_un, hq, k2, i0, i1, i2, i3, purify, unownT, lend, unown, AV.hf, hfL, Tk.hf]
   rw [decide_eq_true c4] at i3
   by_cases c5 : r.fr = r.to
   . by_cases c6 : r.fk = r.tk
     . have no : ¬ mayR f r := fun h => by rcases (hm.1 h).2.2.2.2.2 with h | h; exact h c5; exact h c6
       rw [if_neg no]
       clear no hm k1
       simp (disch := omega) only [wk, tupled, ↓reduceIte, reduceEqDiff, reduceEq, reduceAdd, reduceCtorEq, lr, rl, op, m1, m2, runG_un, hq, k2, i0, i1, i2, i3, c5, c6, purify, unownT, lend, unown, AV.hf, hfL, Tk.hf]
     . have yes : mayR f r := hm.2 ⟨c0, c1, c2, c3, c4, .inr c6⟩
       rw [if_pos yes]
       clear yes hm k1 c0 c1 c2 c3 c4
       simp (disch := omega) only [wk, tupled, ↓reduceIte, reduceEqDiff, reduceEq, reduceAdd, reduceCtorEq, lr, rl, op, m1, m2, runG_un, hq, k2, i0, i1, i2, i3, c5, c6, purify, unownT, lend, unown, AV.hf, hfL, Tk.hf]
   . have yes : mayR f r := hm.2 ⟨c0, c1, c2, c3, c4, .inl c5⟩
     rw [if_pos yes]
     clear yes hm k1 c0 c1 c2 c3 c4
     simp (disch := omega) only [wk, tupled, ↓reduceIte, reduceEqDiff, reduceEq, reduceAdd, reduceCtorEq, lr, rl, op, m1, m2, runG_un, hq, k2, i0, i1, i2, i3, c5, purify, unownT, lend, unown, AV.hf, hfL, Tk.hf]
 have no : ¬ mayR f r := fun h => by rcases mayB_k h.2 with h | h; exact k1 h; exact k2 h
 rw [if_neg no]
 clear no
 simp (disch := omega) only [wk, tupled, ↓reduceIte, reduceEqDiff, reduceEq, reduceAdd, reduceCtorEq, lr, rl, op, m1, m2, runG_un, hq, i0, k1, k2, purify, unownT, lend, unown, AV.hf, hfL, Tk.hf]
theorem rwords21_px {f : Frm} {y : Ly} {r : Redo} (ht : RedT r) (H : Heap) : pcx (cbL tab) 15 [lyV f y, .agg (redA r)] H = some (.plain (wordsJV f y r)) := by
 have cp := fun H => rcheck21_px (f := f) (y := y) ht H
 refine pcx_N rfl (pc_wp (fi := c15) rfl ?_ (by simp [c15]) (by decide) ?_)
 . simp only [pcOn, List.map_cons, List.map_nil, hfL, hf_lend_sl, hf_lend_int, hf_lend_bool, hf_lend_str, hfL_append, Bool.and_self, Bool.and_true, Bool.true_and, c15, lend_lyV, lend_redV, hf_lyV, hf_redV]
 rw [List.map_cons, List.map_cons, List.map_nil, lend_lyV, lend_redV]
 unfold wordsJV wordsJ
 obtain ⟨w0, w1, w2, w3, w4, w5, w6, w7, w8, w9, w10, w11, w12, w13, w14, w15, hw⟩ := red_lit ht
 by_cases h : checkJ f y r = 0
 case neg =>
   rw [if_neg h]
   have e : slvR 1 u64A ([] : List Int) = .sl 0 0 [] .z := rfl
   rw [e]
   rw [hw] at cp ⊢
   unfold c15
   unfold lyV lyA frmA at *
   simp only [List.cons_append, List.nil_append] at cp ⊢
   simp (disch := omega) only [wk, tupled, ↓reduceIte, reduceEqDiff, reduceEq, reduceAdd, reduceCtorEq, cp, h, purify, unownT, lend, unown, AV.hf, hfL, Tk.hf]
 obtain ⟨ho, hm, _⟩ := rightJ_1 h
 rw [if_pos h, h]
 rw [h] at cp
 have pl := plainR_len ht
 have pu := plainR_u ht ho.1 hm
 have pn : plainR r ≠ [] := by unfold plainR; simp
 have hb : bodyR r ≠ [] := by unfold bodyR; split <;> simp
 have pl2 : (plainR r).length <= 18 := by rw [pl]; split <;> omega
 have e1 : (plainR r).length = (bodyR r).length + 1 := by unfold plainR; simp
 have fi := ho.1.2.2.2.1
 have fr := ho.1.2.2.2.2.2.2.1
 have rb : (∀ H, pcx (cbL tab) 39 [.agg (redA r)] H = some (prRow 1 u64A (bodyR r))) ∨ (∀ H, pcx (cbL tab) 39 [.agg (redA r)] H = some (.plain (.sl 1 (bodyR r).length (encs u64A (bodyR r)) .ro))) := by
   obtain ⟨⟨a1, a2⟩, hB⟩ := hm
   rcases hB with ⟨k1, _⟩ | ⟨k2, _, b1, b2, b3, _⟩
   . exact .inl (fun H => rbody1_px r ht k1 a1 (by omega) H)
   . refine .inr (fun H => ?_)
     have b : (bodyR r).length = 7 := by unfold bodyR; rw [if_neg (by omega)]; rfl
     rw [b]
     exact rbody2_px r ht k2 ⟨a1, by omega⟩ ⟨b1.1, by omega⟩ ⟨b2.1, by omega⟩ ⟨b3.1, by omega⟩ H
 rw [prRow_ne hb] at rb
 have hk : IntKind.u64.wrap r.k = r.k := by rcases mayB_k hm.2 with h | h <;> rw [h] <;> rfl
 have bl : (bodyR r).length <= 17 := by omega
 have vl : IntKind.u64.wrap ((bodyR r).length : Int) = ((bodyR r).length : Int) := wrap_u64 (by omega) (by omega)
 have vh : r.k + 256 * ((bodyR r).length : Int) = headR r := by
   have : (bodyR r).length = if r.k = 1 then 17 else 7 := by split at pl <;> rename_i hh <;> simp only [hh, if_true, if_false] <;> omega
   unfold headR
   rcases mayB_k hm.2 with h | h
   . rw [this, if_pos h, if_pos h, h]; rfl
   . rw [this, if_neg (by omega), if_neg (by omega), h]; rfl
 have kb : 0 <= r.k /\ r.k <= 2 := by rcases mayB_k hm.2 with h | h <;> omega
 obtain ⟨kb0, kb1⟩ := kb
 have ap := fun tk H => app_e [headR r] (bodyR r) (by simp) (by omega) hb tk H
 have sp := fun g H => rseal_px pn (by omega) pu (tk := .own g) (.inr ⟨g, rfl⟩) H
 have pc0 : [headR r] ++ bodyR r = plainR r := rfl
 rw [pc0] at ap
 have es : sealM (plainR r) = wordsR r := rfl
 have eh : encs u64A [headR r] = [.int .u64 (headR r)] := rfl
 rw [es] at sp
 rw [eh] at ap
 simp only [List.length_cons, List.length_nil, Nat.zero_add] at ap
 have sn : wordsR r ≠ [] := by unfold wordsR sealM; simp
 have sv : slvR 1 u64A (wordsR r) = .sl 1 (wordsR r).length (encs u64A (wordsR r)) .ro := by
   unfold slvR
   have : (wordsR r).isEmpty = false := by cases hh : wordsR r with
     | nil => exact absurd hh sn
     | cons _ _ => rfl
   rw [this]; rfl
 have hfw : hfL (encs u64A (wordsR r)) = true := hf_u64A _
 rw [sv]
 rw [hw] at cp rb ⊢
 have w1 : IntKind.u64.wrap (256 * ((bodyR r).length : Int)) = 256 * ((bodyR r).length : Int) := wrap_u64 (by omega) (by omega)
 have w2 : IntKind.u64.wrap (r.k + 256 * ((bodyR r).length : Int)) = headR r := by rw [<- vh]; exact wrap_u64 (by omega) (by omega)
 generalize wordsR r = W at *
 generalize bodyR r = B at *
 generalize plainR r = P at *
 clear h ho hm pl pu hw
 unfold c15
 unfold lyV lyA frmA at *
 simp only [List.cons_append, List.nil_append] at cp rb ⊢
 rcases rb with rb | rb
 . simp (disch := omega) only [wk, tupled, ↓reduceIte, reduceEqDiff, reduceEq, reduceAdd, reduceCtorEq, cp, rb, hk, vl, w1, w2, vh, ap, sp, purify, unownT, lend, unown, AV.hf, hfL, Tk.hf, hfw]
 . simp (disch := omega) only [wk, tupled, ↓reduceIte, reduceEqDiff, reduceEq, reduceAdd, reduceCtorEq, cp, rb, hk, vl, w1, w2, vh, ap, sp, purify, unownT, lend, unown, AV.hf, hfL, Tk.hf, hfw]
def smallM (l : List Int) : Bool := l.all fun x => decide (x < 2147483648)
theorem small_px (l : List Int) (rest : List AV) (s : Nat) (tk : Tk) (hs : s = 1) (hr : hfL rest = true) (hl : l.length <= 1000) (H : Heap) : pcx (cbL tab) 35 [.sl s l.length (encs u64A l ++ rest) tk] H = some (.plain (.bool (smallM l))) := by
 subst hs
 obtain ⟨u1, e1, f1⟩ := lend_sl 1 l.length (encs u64A l ++ rest) tk
 refine pcx_N rfl (pc_wp (fi := c35) rfl ?_ (by simp [c35]) (by decide) ?_)
 . simp only [pcOn, List.map_cons, List.map_nil, hfL, hf_lend_sl, hf_lend_int, hf_lend_bool, hf_lend_str, hfL_append, Bool.and_self, Bool.and_true, Bool.true_and, c35, hf_u64A, hr]
 unfold c35
 rw [List.map_cons, List.map_nil, e1]
 simp (disch := omega) only [wk, tupled, ↓reduceIte, reduceEqDiff, reduceEq, reduceAdd, reduceCtorEq]
 refine loop_ind (fun (x : List Int × List Int) E df H1 => l = x.1 ++ x.2 /\ smallM l = smallM x.2 /\ E 0 = .sl 1 l.length (encs u64A l ++ rest) u1 /\ E 3 = .int .i64 (x.1.length : Nat) /\ df = [])
   (fun x => x.2.length) ([], l) (by decide) (.inl rfl) ⟨rfl, rfl, rfl, rfl, rfl⟩ ?_
 intro ⟨pre, suf⟩ E df H1 ih hP
 obtain ⟨a1, a2, E0, E3, hdf⟩ := hP
 dsimp only at a1 a2 E3
 subst hdf
 have la : l.length = pre.length + suf.length := by rw [a1, List.length_append]
 cases suf with
 | nil =>
   have n1 : ¬ (pre.length : Int) < (l.length : Int) := by simp at la; omega
   have e : smallM [] = true := rfl
   rw [a2, e]
   simp (disch := omega) only [wk, tupled, ↓reduceIte, reduceEqDiff, reduceEq, reduceAdd, reduceCtorEq, E0, E3, n1, purify, unownT, lend, unown, AV.hf, hfL, Tk.hf]
 | cons x r =>
   simp only [List.length_cons] at la
   have n1 : (pre.length : Int) < (l.length : Int) := by omega
   have d := wdrop pre x r rest
   rw [<- a1] at d
   by_cases h : x < 2147483648
   . have hn : ¬ 2147483648 <= x := by omega
     simp (disch := omega) only [wk, tupled, ↓reduceIte, reduceEqDiff, reduceEq, reduceAdd, reduceCtorEq, E0, E3, n1, d, hn]
     have e : smallM (x :: r) = smallM r := by unfold smallM; simp [h]
     refine ih (pre ++ [x], r) _ _ _ (by simp) ⟨by simp [a1], by rw [a2, e], by simp only [en, ↓reduceIte, reduceEqDiff, E0], by simp only [en, ↓reduceIte, reduceEqDiff], rfl⟩
   . have hn : 2147483648 <= x := by omega
     have e : smallM (x :: r) = false := by unfold smallM; simp [h]
     rw [a2, e]
     simp (disch := omega) only [wk, tupled, ↓reduceIte, reduceEqDiff, reduceEq, reduceAdd, reduceCtorEq, E0, E3, n1, d, hn, purify, unownT, lend, unown, AV.hf, hfL, Tk.hf]
theorem rof21_1 {f : Frm} {y : Ly} (w : List Int) (rest : List AV) (s : Nat) (tk : Tk) (hs : w ≠ [] -> s = 1) (hr : hfL rest = true) (hw : ∀ x ∈ w, U64 x) (hl : w.length <= 1000)
   (hc : ¬ okY f y ∨ (okY f y /\ w.length ≠ 64) ∨ (okY f y /\ w.length = 64 /\ w.getD 0 0 = 0) ∨ (okY f y /\ w.length = 64 /\ w.getD 0 0 ≠ 0 /\ w.getD 0 0 ≠ 4353 /\ w.getD 0 0 ≠ 1794)) (H : Heap) :
   pcx (cbL tab) 11 [lyV f y, .sl s w.length (encs u64A w ++ rest) tk] H = some (.plain (outV (outJ f y w))) := by
 have lr : ∀ H, pcx (cbL tab) 22 [lyV f y] H = some (.plain (.bool (decide (okY f y)))) := fun H => rright_all f y.k0 y.k1 y.c y.d y.e y.g H
 obtain ⟨u1, e1, f1⟩ := lend_sl s w.length (encs u64A w ++ rest) tk
 have hfu : hfL (encs u64A w) = true := hf_u64A w
 refine pcx_N rfl (pc_wp (fi := c11) rfl ?_ (by simp [c11]) (by decide) ?_)
 . simp only [pcOn, List.map_cons, List.map_nil, hfL, hf_lend_sl, hf_lend_int, hf_lend_bool, hf_lend_str, hfL_append, Bool.and_self, Bool.and_true, Bool.true_and, c11, lend_lyV, hf_lyV, hfu, hr]
 rw [List.map_cons, List.map_cons, List.map_nil, lend_lyV, e1]
 have pz := fun e H => purify_out red0 false e H
 rw [red0_lit] at pz
 unfold outJ
 unfold c11
 by_cases hok : okY f y
 case neg =>
   rw [decide_eq_false hok] at lr
   rw [if_neg hok]
   clear hok hc
   unfold lyV lyA frmA at *
   simp only [List.cons_append, List.nil_append] at lr ⊢
   simp (disch := omega) only [wk, tupled, ↓reduceIte, reduceEqDiff, reduceEq, reduceAdd, reduceCtorEq, lr, List.append_nil, pz]
 rw [decide_eq_true hok] at lr
 rw [if_pos hok]
 unfold ofW
 unfold lyV lyA frmA at *
 simp only [List.cons_append, List.nil_append] at lr ⊢
 by_cases h64 : w.length = 64
 case neg =>
   rw [if_pos h64]
   have h64' : ¬ (w.length : Int) = 64 := by omega
   clear hc
   simp (disch := omega) only [wk, tupled, ↓reduceIte, reduceEqDiff, reduceEq, reduceAdd, reduceCtorEq, lr, h64', List.append_nil, pz]
 rw [if_neg (fun h => h h64)]
 obtain rfl := hs (by intro h; rw [h] at h64; cases h64)
 have g0 : (encs u64A w ++ rest)[0]? = some (.int .u64 (w.getD 0 0)) := by
   rw [List.getElem?_append_left (by rw [lenU]; omega)]
   exact getU w 0 (by omega)
 have hgw : w.getD 0 0 ≠ 4353 -> w.getD 0 0 ≠ 1794 -> ¬ goodW f w := fun a b h => by
   rcases h.1 with h | h
   . exact a h
   . exact b h.1
 generalize w.getD 0 0 = w0 at *
 have i64 : ((64 : Nat) : Int) = 64 := rfl
 have i0 : (0 : Int).toNat = 0 := rfl
 rw [h64]
 by_cases hz : w0 = 0
 . rw [if_pos hz]
   simp (disch := omega) only [wk, tupled, ↓reduceIte, reduceEqDiff, reduceEq, reduceAdd, reduceCtorEq, lr, i64, i0, g0, hz, List.append_nil, pz]
 have hc2 : w0 ≠ 4353 /\ w0 ≠ 1794 := by
   rcases hc with h | h | h | h
   . exact absurd hok h
   . exact absurd h64 h.2
   . exact absurd h.2.2 hz
   . exact h.2.2.2
 have hg : ¬ goodW f w := hgw hc2.1 hc2.2
 obtain ⟨d1, d2⟩ := hc2
 rw [if_neg hz, if_neg hg]
 clear hg hgw hc
 simp (disch := omega) only [wk, tupled, ↓reduceIte, reduceEqDiff, reduceEq, reduceAdd, reduceCtorEq, lr, i64, i0, g0, hz, d1, d2, List.append_nil, pz]
theorem plain1 {w : List Int} (h : w.length = 64) (k : w.getD 0 0 = 4353) : plainR (decR w) = w.take 18 := by
 unfold decR
 rw [if_pos k]
 match w, h with
 | a :: b :: t, _ =>
   have ka : a = 4353 := k
   subst ka
   rfl
theorem plain2 {w : List Int} (h : w.length = 64) (k : w.getD 0 0 = 1794) (h7 : w.getD 7 0 <= 1) (h70 : 0 <= w.getD 7 0) : plainR (decR w) = w.take 8 := by
 unfold decR
 rw [if_neg (by rw [k]; decide)]
 match w, h with
 | a :: b :: c :: d :: e :: f :: g :: x :: t, _ =>
   have ka : a = 1794 := k
   subst ka
   have x1 : x <= 1 := h7
   have x0 : 0 <= x := h70
   have hx : x = 0 ∨ x = 1 := by omega
   rcases hx with rfl | rfl <;> rfl
theorem decT1 {w : List Int} (h : w.length = 64) (hw : ∀ x ∈ w, U64 x) (k : w.getD 0 0 = 4353) (hs : w.getD 1 0 < 2147483648) : RedT (decR w) := by
 unfold decR
 rw [if_pos k]
 have ux1 := (getD_u hw 1).1
 exact ⟨lo1, hi1, by show _ <= w.getD 1 0; omega, by show w.getD 1 0 < _; omega, by show ((w.drop 2).take 16).length = 16; rw [List.length_take, List.length_drop, h]; rfl,
   fun x hx => hw x (List.mem_of_mem_drop (List.mem_of_mem_take hx)), lo0, hi0, lo0, hi0, u0, u0, lo0, hi0⟩
theorem wdropI {w : List Int} {rest : List AV} {i : Nat} (h : i < w.length) : List.drop i (encs u64A w ++ rest) = .int .u64 (w.getD i 0) :: List.drop (i + 1) (encs u64A w ++ rest) := by
 have l := lenU w
 rw [List.drop_eq_getElem_cons (by rw [List.length_append, l]; omega)]
 congr 1
 have g := getU w i h
 rw [List.getElem?_eq_getElem (by omega)] at g
 rw [List.getElem_append_left (by omega)]
 exact Option.some.inj g
theorem hfL_drop {l : List AV} (h : hfL l = true) (n : Nat) : hfL (l.drop n) = true := by
 rw [<- List.take_append_drop n l, hfL_append, Bool.and_eq_true] at h
 exact h.2
theorem rof21_2 {f : Frm} {y : Ly} (w : List Int) (rest : List AV) (tk : Tk) (hr : hfL rest = true) (hw : ∀ x ∈ w, U64 x) (hok : okY f y) (h64 : w.length = 64) (k1 : w.getD 0 0 = 4353) (H : Heap) :
   pcx (cbL tab) 11 [lyV f y, .sl 1 w.length (encs u64A w ++ rest) tk] H = some (.plain (outV (outJ f y w))) := by
 have lr : ∀ H, pcx (cbL tab) 22 [lyV f y] H = some (.plain (.bool (decide (okY f y)))) := fun H => rright_all f y.k0 y.k1 y.c y.d y.e y.g H
 rw [decide_eq_true hok] at lr
 obtain ⟨u1, e1, f1⟩ := lend_sl 1 w.length (encs u64A w ++ rest) tk
 have hfu : hfL (encs u64A w) = true := hf_u64A w
 refine pcx_N rfl (pc_wp (fi := c11) rfl ?_ (by simp [c11]) (by decide) ?_)
 . simp only [pcOn, List.map_cons, List.map_nil, hfL, hf_lend_sl, hf_lend_int, hf_lend_bool, hf_lend_str, hfL_append, Bool.and_self, Bool.and_true, Bool.true_and, c11, lend_lyV, hf_lyV, hfu, hr]
 rw [List.map_cons, List.map_cons, List.map_nil, lend_lyV, e1]
 have pz := fun e H => purify_out red0 false e H
 rw [red0_lit] at pz
 unfold outJ
 rw [if_pos hok]
 unfold ofW
 rw [if_neg (fun h => h h64), k1, if_neg (by decide)]
 have fi := hok.1.2.2.2.1
 have d0 := wdropI (w := w) (rest := rest) (i := 0) (by omega)
 have d1 := wdropI (w := w) (rest := rest) (i := 1) (by omega)
 rw [List.drop_zero, k1] at d0
 have g0 : (encs u64A w ++ rest)[0]? = some (.int .u64 4353) := by rw [d0]; rfl
 have hrd : hfL (List.drop 2 (encs u64A w ++ rest)) = true := hfL_drop (by rw [hfL_append, hfu, hr]; rfl) 2
 have sp := fun H => small_px [w.getD 1 0] (List.drop 2 (encs u64A w ++ rest)) 1 .ro rfl hrd (by simp) H
 have lw : (encs u64A w ++ rest).length = 64 + rest.length := by rw [List.length_append, lenU, h64]
 have i64 : ((64 : Nat) : Int) = 64 := rfl
 have sm : smallM [w.getD 1 0] = decide (w.getD 1 0 < 2147483648) := by unfold smallM; simp
 have es : encs u64A [w.getD 1 0] = [.int .u64 (w.getD 1 0)] := rfl
 have j1 : (1 : Int).toNat = 1 := rfl
 have j2 : (2 : Int).toNat = 2 := rfl
 have j3 : 2 - 1 = 1 := rfl
 rw [h64]
 rw [sm, es] at sp
 simp only [List.length_cons, List.length_nil, Nat.zero_add, List.cons_append, List.nil_append] at sp
 have hg1 : goodW f w -> w.getD 1 0 < 2147483648 := fun h => by
   have := h.2.1.1.2
   unfold decR at this
   rw [if_pos k1] at this
   have t : w.getD 1 0 <= f.i := this
   omega
 have mw : manyW w = 18 := if_pos k1
 have bl : (w.take 18).length = 18 := by rw [List.length_take]; omega
 have gd : goodW f w ↔ mayR f (decR w) /\ sealM (w.take 18) = w.take 19 := by
   unfold goodW
   rw [mw]
   exact ⟨fun h => h.2, fun h => ⟨.inl k1, h⟩⟩
 have pw := plain1 h64 k1
 have uu1 := getD_u hw 1
 have de : decR w = ⟨1, w.getD 1 0, wsJ (w.take 18) 16, 0, 0, 0, 0, 0, false⟩ := by
   rw [dec1 k1, wsJ_end]
   show (⟨1, (w.take 18).getD 1 0, _, 0, 0, 0, 0, 0, false⟩ : Redo) = _
   rw [getD_take (by decide)]
   rfl
 by_cases hs : w.getD 1 0 < 2147483648
 case neg =>
   rw [if_neg (fun h => hs (hg1 h))]
   rw [decide_eq_false hs] at sp
   unfold c11
   unfold lyV lyA frmA at *
   simp only [List.cons_append, List.nil_append] at lr ⊢
   clear hg1 gd de pw mw bl hs hok
   generalize w.getD 1 0 = b1 at *
   generalize encs u64A w ++ rest = W at *
   simp (disch := omega) only [wk, tupled, ↓reduceIte, reduceEqDiff, reduceEq, reduceAdd, reduceCtorEq, lr, i64, Int.toNat_zero, g0, j1, j2, j3, lw, d1, sp, pz]
 have ht := decT1 h64 hw k1 hs
 rw [decide_eq_true hs] at sp
 have wp := fun H => rwords21_px (f := f) (y := y) ht H
 have v1 : IntKind.i64.wrap (w.getD 1 0) = w.getD 1 0 := wrap_i64 (by have := uu1.1; omega) (by omega)
 have dj : ∀ j, j < 16 -> List.drop (2 + j) (encs u64A w ++ rest) = .int .u64 ((w.take 18).getD (j + 2) 0) :: List.drop (2 + j + 1) (encs u64A w ++ rest) := fun j hj => by
   rw [wdropI (by omega), getD_take (by omega), show 2 + j = j + 2 by omega]
 have dx := fun n (hn : n <= 64) => show encs u64A w ++ rest = encs u64A (w.take n) ++ (encs u64A (w.drop n) ++ rest) by rw [<- List.append_assoc, <- encs_append, List.take_append_drop]
 unfold c11
 unfold lyV lyA frmA at *
 simp only [List.cons_append, List.nil_append] at lr wp ⊢
 rw [de] at wp gd pw ht ⊢
 have hok' := hok
 clear hg1 hok de
 generalize w.getD 1 0 = b1 at *
 have hwd := fun n => hf_u64A (w.drop n)
 have hwl : ∀ n, (w.take n).length <= 64 := fun n => by rw [List.length_take]; omega
 generalize encs u64A w ++ rest = W at *
 simp (disch := omega) only [wk, tupled, ↓reduceIte, reduceEqDiff, reduceEq, reduceAdd, reduceCtorEq, lr, i64, Int.toNat_zero, g0, j1, j2, j3, lw, d1, sp, v1, red0_lit]
 obtain ⟨L0, hL0⟩ : ∃ L0 : AObj, L0 = .cells [.int .i64 f.b, .int .i64 f.i, .int .i64 f.r, .int .i64 f.t, .int .u64 y.k0, .int .u64 y.k1, .int .i64 y.c, .int .i64 y.d, .int .i64 y.e, .int .i64 y.g] := ⟨_, rfl⟩
 obtain ⟨L1, hL1⟩ : ∃ L1 : AObj, L1 = .cells [.int .i64 0, .int .i64 0, .int .u64 0, .int .u64 0, .int .u64 0, .int .u64 0, .int .u64 0, .int .u64 0, .int .u64 0, .int .u64 0, .int .u64 0, .int .u64 0, .int .u64 0, .int .u64 0, .int .u64 0, .int .u64 0, .int .u64 0, .int .u64 0, .int .i64 0, .int .i64 0, .int .u64 0, .int .u64 0, .int .i64 0, .bool false] := ⟨_, rfl⟩
 rw [<- hL0, <- hL1]
 refine loop_ind (fun (j : Nat) E df H1 => j <= 16 /\ E 1 = .sl 1 64 W u1 /\ E 2 = .ptr 0 0 /\ E 4 = .ptr 1 0 /\ E 7 = .ptr 2 0 /\ E 8 = .int .i64 (j : Nat) /\ df = [] ∧
     H1 = [L0, L1, .cells (.int .i64 1 :: .int .i64 b1 :: (encs u64A (wsJ (w.take 18) j) ++ t6z))])
   (fun j => 16 - j) 0 (by decide) (.inl rfl) ⟨by omega, rfl, rfl, rfl, rfl, rfl, rfl, by rw [hL0, hL1]; rfl⟩ ?_
 intro j E df H1 ih hP
 obtain ⟨hj, E1, E2, E4, E7, E8, hdf, hH⟩ := hP
 subst hdf hH
 by_cases hj2 : j < 16
 . have m1 : (j : Int) < 16 := by omega
   have m2 : 0 <= 2 + (j : Int) /\ 2 + (j : Int) < 64 := by omega
   have m3 : (2 + (j : Int)).toNat = 2 + j := by omega
   have dj2 := dj j hj2
   have wl := wsJ_len bl (j := j) (by omega)
   have lw2 := lenU (wsJ (w.take 18) j)
   have cw := cellsW (.int .i64 1) (.int .i64 b1) (wsJ (w.take 18) j) t6z j (by omega) ((w.take 18).getD (j + 2) 0)
   rw [wsJ_set bl hj2] at cw
   have l6 : t6z.length = 6 := rfl
   clear wp gd sp dj dx
   simp (disch := omega) only [wk, tupled, ↓reduceIte, reduceEqDiff, reduceEq, reduceAdd, reduceCtorEq, E1, E2, E4, E7, E8, m1, m2, m3, dj2, wl, lw2, l6, cw]
   refine ih (j + 1) _ _ _ (by omega) ⟨by omega, by simp only [en, ↓reduceIte, reduceEqDiff, E1], by simp only [en, ↓reduceIte, reduceEqDiff, E2], by simp only [en, ↓reduceIte, reduceEqDiff, E4], by simp only [en, ↓reduceIte, reduceEqDiff, E7], by simp only [en, ↓reduceIte, reduceEqDiff], rfl, rfl⟩
 . obtain rfl : j = 16 := by omega
   have m1 : ¬ ((16 : Nat) : Int) < 16 := by omega
   have eR : AV.int .i64 1 :: .int .i64 b1 :: (encs u64A (wsJ (w.take 18) 16) ++ t6z) = redA ⟨1, b1, wsJ (w.take 18) 16, 0, 0, 0, 0, 0, false⟩ := rfl
   rw [eR]
   generalize (⟨1, b1, wsJ (w.take 18) 16, 0, 0, 0, 0, 0, false⟩ : Redo) = R at *
   obtain ⟨w0, w1, w2, w3, w4, w5, w6, w7, w8, w9, w10, w11, w12, w13, w14, w15, hR⟩ := red_lit ht
   have pk := fun H => purify_out R true 0 H
   rw [hR] at pk wp ⊢
   unfold wordsJV wordsJ at wp
   have ck : checkJ f y R = if mayR f R then 0 else 310 := if_pos hok'
   by_cases hm : mayR f R
   case neg =>
     have hg : ¬ goodW f w := fun h => hm (gd.1 h).1
     rw [if_neg hm] at ck
     rw [ck] at wp
     rw [if_neg (by decide : ¬ (310 : Int) = 0)] at wp
     have sv : slvR 1 u64A ([] : List Int) = .sl 0 0 [] .z := rfl
     rw [sv] at wp
     rw [if_neg hg]
     clear gd hg hm ck pw ht hR dj dx
     subst hL0 hL1
     simp (disch := omega) only [wk, tupled, ↓reduceIte, reduceEqDiff, reduceEq, reduceAdd, reduceCtorEq, E1, E2, E4, E7, E8, m1, wp, pz, List.append_nil]
   rw [if_pos hm] at ck
   rw [ck, if_pos rfl] at wp
   have pl : (wordsR R).length = 19 := by
     have : wordsR R = sealM (w.take 18) := by unfold wordsR; rw [pw]
     rw [this]
     unfold sealM
     rw [List.length_append, bl]; rfl
   have sv : slvR 1 u64A (wordsR R) = .sl 1 19 (encs u64A (wordsR R)) .ro := by
     unfold slvR
     have : (wordsR R).isEmpty = false := by
       cases hh : wordsR R with
       | nil => rw [hh] at pl; cases pl
       | cons _ _ => rfl
     rw [this, pl]; rfl
   rw [sv] at wp
   have bl2 : (w.take 19).length = 19 := by rw [List.length_take]; omega
   have sm2 := fun H => same_px (wordsR R) (w.take 19) [] (encs u64A (w.drop 19) ++ rest) 1 1 .ro .ro H (by omega) (by omega) (fun _ => rfl) (fun _ => rfl) rfl (by rw [hfL_append, hwd, hr]; rfl)
   rw [<- dx 19 (by decide), List.append_nil, pl, bl2] at sm2
   have gd2 : goodW f w ↔ wordsR R = w.take 19 := by
     rw [gd]
     have : wordsR R = sealM (w.take 18) := by unfold wordsR; rw [pw]
     rw [this]
     exact ⟨fun h => h.2, fun h => ⟨hm, h⟩⟩
   have c19 : ((19 : Nat) : Int) = 19 := rfl
   have t19 : (19 : Int).toNat = 19 := rfl
   by_cases hg : goodW f w
   . rw [if_pos hg]
     rw [decide_eq_true (gd2.1 hg)] at sm2
     clear gd gd2 hg hm ck pw ht hR dj dx sv
     subst hL0 hL1
     simp (disch := omega) only [wk, tupled, ↓reduceIte, reduceEqDiff, reduceEq, reduceAdd, reduceCtorEq, E1, E2, E4, E7, E8, m1, wp, c19, t19, lw, sm2, pk, List.append_nil]
   . rw [if_neg hg]
     rw [decide_eq_false (fun h => hg (gd2.2 h))] at sm2
     clear gd gd2 hg hm ck pw ht hR dj dx sv
     subst hL0 hL1
     simp (disch := omega) only [wk, tupled, ↓reduceIte, reduceEqDiff, reduceEq, reduceAdd, reduceCtorEq, E1, E2, E4, E7, E8, m1, wp, c19, t19, lw, sm2, pz, List.append_nil]
theorem decT2 {w : List Int} (hw : ∀ x ∈ w, U64 x) (k : w.getD 0 0 = 1794) (h1 : w.getD 1 0 < 2147483648) (h3 : w.getD 3 0 < 2147483648) (h5 : w.getD 5 0 < 2147483648) (h6 : w.getD 6 0 < 2147483648) : RedT (decR w) := by
 unfold decR
 rw [if_neg (by rw [k]; decide)]
 have u1 := (getD_u hw 1).1
 have u3 := (getD_u hw 3).1
 have u5 := (getD_u hw 5).1
 have u6 := (getD_u hw 6).1
 exact ⟨lo2, hi2, by show _ <= w.getD 6 0; omega, by show w.getD 6 0 < _; omega, rfl, fun x hx => by have := (List.mem_replicate.1 hx).2; subst this; exact ⟨by decide, by decide⟩,
       by show _ <= w.getD 1 0; omega, by show w.getD 1 0 < _; omega, by show _ <= w.getD 3 0; omega, by show w.getD 3 0 < _; omega, getD_u hw 2, getD_u hw 4, by show _ <= w.getD 5 0; omega, by show w.getD 5 0 < _; omega⟩
theorem rof21_3 {f : Frm} {y : Ly} (w : List Int) (rest : List AV) (tk : Tk) (hr : hfL rest = true) (hw : ∀ x ∈ w, U64 x) (hok : okY f y) (h64 : w.length = 64) (k1 : w.getD 0 0 = 1794) (H : Heap) :
   pcx (cbL tab) 11 [lyV f y, .sl 1 w.length (encs u64A w ++ rest) tk] H = some (.plain (outV (outJ f y w))) := by
 have lr : ∀ H, pcx (cbL tab) 22 [lyV f y] H = some (.plain (.bool (decide (okY f y)))) := fun H => rright_all f y.k0 y.k1 y.c y.d y.e y.g H
 rw [decide_eq_true hok] at lr
 obtain ⟨u1, e1, f1⟩ := lend_sl 1 w.length (encs u64A w ++ rest) tk
 have hfu : hfL (encs u64A w) = true := hf_u64A w
 refine pcx_N rfl (pc_wp (fi := c11) rfl ?_ (by simp [c11]) (by decide) ?_)
 . simp only [pcOn, List.map_cons, List.map_nil, hfL, hf_lend_sl, hf_lend_int, hf_lend_bool, hf_lend_str, hfL_append, Bool.and_self, Bool.and_true, Bool.true_and, c11, lend_lyV, hf_lyV, hfu, hr]
 rw [List.map_cons, List.map_cons, List.map_nil, lend_lyV, e1]
 have pz := fun e H => purify_out red0 false e H
 rw [red0_lit] at pz
 unfold outJ
 rw [if_pos hok]
 unfold ofW
 rw [if_neg (fun h => h h64), k1, if_neg (by decide)]
 have fi := hok.1.2.2.2.1
 have fr := hok.1.2.2.2.2.2.2.1
 have d0 := wdropI (w := w) (rest := rest) (i := 0) (by omega)
 have d1 := wdropI (w := w) (rest := rest) (i := 1) (by omega)
 have d2 := wdropI (w := w) (rest := rest) (i := 2) (by omega)
 have d3 := wdropI (w := w) (rest := rest) (i := 3) (by omega)
 have d4 := wdropI (w := w) (rest := rest) (i := 4) (by omega)
 have d5 := wdropI (w := w) (rest := rest) (i := 5) (by omega)
 have d6 := wdropI (w := w) (rest := rest) (i := 6) (by omega)
 have d7 := wdropI (w := w) (rest := rest) (i := 7) (by omega)
 rw [List.drop_zero, k1] at d0
 have g0 : (encs u64A w ++ rest)[0]? = some (.int .u64 1794) := by rw [d0]; rfl
 have sp := fun H => small_px [w.getD 1 0, w.getD 3 0, w.getD 5 0, w.getD 6 0] [] 1 .ro rfl rfl (by simp) H
 have lw : (encs u64A w ++ rest).length = 64 + rest.length := by rw [List.length_append, lenU, h64]
 have i64 : ((64 : Nat) : Int) = 64 := rfl
 have sm : smallM [w.getD 1 0, w.getD 3 0, w.getD 5 0, w.getD 6 0] = decide (w.getD 1 0 < 2147483648 /\ w.getD 3 0 < 2147483648 /\ w.getD 5 0 < 2147483648 /\ w.getD 6 0 < 2147483648) := by unfold smallM; simp [Bool.decide_and]
 have es : encs u64A [w.getD 1 0, w.getD 3 0, w.getD 5 0, w.getD 6 0] = [.int .u64 (w.getD 1 0), .int .u64 (w.getD 3 0), .int .u64 (w.getD 5 0), .int .u64 (w.getD 6 0)] := rfl
 have j1 : (1 : Int).toNat = 1 := rfl
 have j2 : (2 : Int).toNat = 2 := rfl
 have j3 : (3 : Int).toNat = 3 := rfl
 have j4 : (4 : Int).toNat = 4 := rfl
 have j5 : (5 : Int).toNat = 5 := rfl
 have j6 : (6 : Int).toNat = 6 := rfl
 have j7 : (7 : Int).toNat = 7 := rfl
 rw [h64]
 rw [sm, es] at sp
 simp only [List.length_cons, List.length_nil, Nat.zero_add, List.append_nil] at sp
 have hn : ¬ w.getD 0 0 = 4353 := by rw [k1]; decide
 have de : decR w = ⟨2, w.getD 6 0, ws0, w.getD 1 0, w.getD 3 0, w.getD 2 0, w.getD 4 0, w.getD 5 0, decide (w.getD 7 0 = 1)⟩ := if_neg hn
 have hg1 : goodW f w -> (w.getD 1 0 < 2147483648 /\ w.getD 3 0 < 2147483648 /\ w.getD 5 0 < 2147483648 /\ w.getD 6 0 < 2147483648) /\ w.getD 7 0 <= 1 := fun h => by
   have hm := (mayR_2 (f := f) (r := decR w) (by rw [de])).1 h.2.1
   rw [de] at hm
   dsimp only at hm
   refine ⟨by omega, ?_⟩
   rcases h.1 with h | h
   . exact absurd h hn
   . exact h.2
 have mw : manyW w = 8 := if_neg hn
 have bl : (w.take 8).length = 8 := by rw [List.length_take]; omega
 have gd : w.getD 7 0 <= 1 -> (goodW f w ↔ mayR f (decR w) /\ sealM (w.take 8) = w.take 9) := fun h7 => by
   unfold goodW
   rw [mw]
   exact ⟨fun h => h.2, fun h => ⟨.inr ⟨k1, h7⟩, h⟩⟩
 have pw := fun h7 => plain2 h64 k1 h7 (getD_u hw 7).1
 have ht0 := decT2 hw k1
 have v1 := (getD_u hw 1).1
 have v3 := (getD_u hw 3).1
 have v5 := (getD_u hw 5).1
 have v6 := (getD_u hw 6).1
 rw [de] at gd pw ht0 ⊢
 have dx := fun n (hn : n <= 64) => show encs u64A w ++ rest = encs u64A (w.take n) ++ (encs u64A (w.drop n) ++ rest) by rw [<- List.append_assoc, <- encs_append, List.take_append_drop]
 have hwd := fun n => hf_u64A (w.drop n)
 have hwl : ∀ n, (w.take n).length <= 64 := fun n => by rw [List.length_take]; omega
 have hok' := hok
 generalize w.getD 1 0 = b1, w.getD 2 0 = b2, w.getD 3 0 = b3, w.getD 4 0 = b4, w.getD 5 0 = b5, w.getD 6 0 = b6, w.getD 7 0 = b7 at *
 have bl9 : (w.take 9).length = 9 := by rw [List.length_take]; omega
 have dx9 := dx 9 (by decide)
 have hwd9 := hwd 9
 clear hok hw k1 dx hwd hwl de sm es hfu mw hn
 by_cases hs : b1 < 2147483648 /\ b3 < 2147483648 /\ b5 < 2147483648 /\ b6 < 2147483648
 case neg =>
   rw [if_neg (fun h => hs (hg1 h).1)]
   rw [decide_eq_false hs] at sp
   unfold c11
   unfold lyV lyA frmA at *
   simp only [List.cons_append, List.nil_append] at lr ⊢
   clear hg1 gd pw hs ht0
   generalize encs u64A w ++ rest = W at *
   simp (disch := omega) only [wk, tupled, ↓reduceIte, reduceEqDiff, reduceEq, reduceAdd, reduceCtorEq, lr, i64, Int.toNat_zero, g0, j1, j3, j5, j6, lw, d1, d3, d5, d6, sp, pz]
 rw [decide_eq_true hs] at sp
 obtain ⟨s1, s3, s5, s6⟩ := hs
 by_cases h7 : b7 <= 1
 case neg =>
   rw [if_neg (fun h => h7 (hg1 h).2)]
   unfold c11
   unfold lyV lyA frmA at *
   simp only [List.cons_append, List.nil_append] at lr ⊢
   clear hg1 gd pw ht0
   generalize encs u64A w ++ rest = W at *
   have h7' : 1 < b7 := by omega
   simp (disch := omega) only [wk, tupled, ↓reduceIte, reduceEqDiff, reduceEq, reduceAdd, reduceCtorEq, lr, i64, Int.toNat_zero, g0, j1, j3, j5, j6, j7, lw, d1, d3, d5, d6, d7, sp, h7', pz]
 have ht := ht0 s1 s3 s5 s6
 have gd := gd h7
 have pw := pw h7
 have c1 : IntKind.i64.wrap b1 = b1 := wrap_i64 (by omega) (by omega)
 have c3 : IntKind.i64.wrap b3 = b3 := wrap_i64 (by omega) (by omega)
 have c5 : IntKind.i64.wrap b5 = b5 := wrap_i64 (by omega) (by omega)
 have c6 : IntKind.i64.wrap b6 = b6 := wrap_i64 (by omega) (by omega)
 have wp := fun H => rwords21_px (f := f) (y := y) ht H
 have pk := fun H => purify_out (⟨2, b6, ws0, b1, b3, b2, b4, b5, decide (b7 = 1)⟩ : Redo) true 0 H
 have eR : redA ⟨2, b6, ws0, b1, b3, b2, b4, b5, decide (b7 = 1)⟩ = [.int .i64 2, .int .i64 b6, .int .u64 0, .int .u64 0, .int .u64 0, .int .u64 0, .int .u64 0, .int .u64 0, .int .u64 0, .int .u64 0, .int .u64 0, .int .u64 0, .int .u64 0, .int .u64 0, .int .u64 0, .int .u64 0, .int .u64 0, .int .u64 0, .int .i64 b1, .int .i64 b3, .int .u64 b2, .int .u64 b4, .int .i64 b5, .bool (decide (b7 = 1))] := rfl
 rw [eR] at wp pk
 generalize (⟨2, b6, ws0, b1, b3, b2, b4, b5, decide (b7 = 1)⟩ : Redo) = R at *
 unfold wordsJV wordsJ at wp
 have ck : checkJ f y R = if mayR f R then 0 else 310 := if_pos hok'
 unfold c11
 unfold lyV lyA frmA at *
 simp only [List.cons_append, List.nil_append] at lr wp ⊢
 have sm2 := fun (hl : (wordsR R).length = 9) H => same_px (wordsR R) (w.take 9) [] (encs u64A (w.drop 9) ++ rest) 1 1 .ro .ro H (by omega) (by omega) (fun _ => rfl) (fun _ => rfl) rfl (by rw [hfL_append, hwd9, hr]; rfl)
 rw [<- dx9, List.append_nil, bl9] at sm2
 clear hg1 ht0 ht eR dx9 hwd9
 generalize encs u64A w ++ rest = W at *
 by_cases hm : mayR f R
 case neg =>
   have hg : ¬ goodW f w := fun h => hm (gd.1 h).1
   rw [if_neg hm] at ck
   rw [ck] at wp
   rw [if_neg (by decide : ¬ (310 : Int) = 0)] at wp
   have sv : slvR 1 u64A ([] : List Int) = .sl 0 0 [] .z := rfl
   rw [sv] at wp
   rw [if_neg hg]
   clear gd hg hm ck pw sm2
   simp (disch := omega) only [wk, tupled, ↓reduceIte, reduceEqDiff, reduceEq, reduceAdd, reduceCtorEq, lr, i64, Int.toNat_zero, g0, j1, j2, j3, j4, j5, j6, j7, lw, d1, d2, d3, d4, d5, d6, d7, sp, h7, c1, c3, c5, c6, wp, pz, List.append_nil]
 rw [if_pos hm] at ck
 rw [ck, if_pos rfl] at wp
 have hsw : wordsR R = sealM (w.take 8) := by unfold wordsR; rw [pw]
 have pl : (wordsR R).length = 9 := by
   rw [hsw]
   unfold sealM
   rw [List.length_append, bl]; rfl
 have sv : slvR 1 u64A (wordsR R) = .sl 1 9 (encs u64A (wordsR R)) .ro := by
   unfold slvR
   have : (wordsR R).isEmpty = false := by
     cases hh : wordsR R with
     | nil => rw [hh] at pl; cases pl
     | cons _ _ => rfl
   rw [this, pl]; rfl
 rw [sv] at wp
 have sm2 := sm2 pl
 rw [pl] at sm2
 have gd2 : goodW f w ↔ wordsR R = w.take 9 := by
   rw [gd, hsw]
   exact ⟨fun h => h.2, fun h => ⟨hm, h⟩⟩
 have c9 : ((9 : Nat) : Int) = 9 := rfl
 have t9 : (9 : Int).toNat = 9 := rfl
 by_cases hg : goodW f w
 . rw [if_pos hg]
   rw [decide_eq_true (gd2.1 hg)] at sm2
   clear gd gd2 hg hm ck pw sv hsw
   simp (disch := omega) only [wk, tupled, ↓reduceIte, reduceEqDiff, reduceEq, reduceAdd, reduceCtorEq, lr, i64, Int.toNat_zero, g0, j1, j2, j3, j4, j5, j6, j7, lw, d1, d2, d3, d4, d5, d6, d7, sp, h7, c1, c3, c5, c6, wp, c9, t9, sm2, pk, List.append_nil]
 . rw [if_neg hg]
   rw [decide_eq_false (fun h => hg (gd2.2 h))] at sm2
   clear gd gd2 hg hm ck pw sv hsw
   simp (disch := omega) only [wk, tupled, ↓reduceIte, reduceEqDiff, reduceEq, reduceAdd, reduceCtorEq, lr, i64, Int.toNat_zero, g0, j1, j2, j3, j4, j5, j6, j7, lw, d1, d2, d3, d4, d5, d6, d7, sp, h7, c1, c3, c5, c6, wp, c9, t9, sm2, pz, List.append_nil]
theorem rof21_px {f : Frm} {y : Ly} (w : List Int) (rest : List AV) (s : Nat) (tk : Tk) (hs : w ≠ [] -> s = 1) (hr : hfL rest = true) (hw : ∀ x ∈ w, U64 x) (hl : w.length <= 1000) (H : Heap) :
   pcx (cbL tab) 11 [lyV f y, .sl s w.length (encs u64A w ++ rest) tk] H = some (.plain (outV (outJ f y w))) := by
 by_cases hok : okY f y
 case neg => exact rof21_1 w rest s tk hs hr hw hl (.inl hok) H
 by_cases h64 : w.length = 64
 case neg => exact rof21_1 w rest s tk hs hr hw hl (.inr (.inl ⟨hok, h64⟩)) H
 have hne : w ≠ [] := fun h => by rw [h] at h64; cases h64
 obtain rfl := hs hne
 by_cases hz : w.getD 0 0 = 0
 . exact rof21_1 w rest 1 tk hs hr hw hl (.inr (.inr (.inl ⟨hok, h64, hz⟩))) H
 by_cases k1 : w.getD 0 0 = 4353
 . exact rof21_2 w rest tk hr hw hok h64 k1 H
 by_cases k2 : w.getD 0 0 = 1794
 . exact rof21_3 w rest tk hr hw hok h64 k2 H
 exact rof21_1 w rest 1 tk hs hr hw hl (.inr (.inr (.inr ⟨hok, h64, hz, k1, k2⟩))) H
def stF (at' : Int) (j : Nat) : List Int -> List (Int × Int)
 | [] => []
 | x :: r => (at' + 1 + (j : Int), x) :: stF at' (j + 1) r
def storesM (at' : Int) (w : List Int) : List (Int × Int) := stF at' 0 (w.drop 1) ++ [(at', w.headD 0)]
def storesJ (f : Frm) (y : Ly) (n : Int) (r : Redo) : List (Int × Int) × Int :=
 if clientJ f y n then (if mayR f r then (storesM (64 + n * 64) (wordsR r), 0) else ([], 310)) else ([], 2)
theorem samePuts_pc (l m : List (Int × Int)) (s1 s2 : Nat) (t1 t2 : Tk) (hz1 : l ≠ [] -> s1 = 2) (hz2 : m ≠ [] -> s2 = 2) (hl : (l.length : Int) < 9223372036854775807) : (cbL tab).pc 21 [.sl s1 l.length (encs putA l) t1, .sl s2 m.length (encs putA m) t2] = some (.plain (.bool (decide (l = m)))) := by
 obtain ⟨u1, e1, f1⟩ := lend_sl s1 l.length (encs putA l) t1
 obtain ⟨u2, e2, f2⟩ := lend_sl s2 m.length (encs putA m) t2
 refine pc_wp (fi := c21) rfl ?_ (by simp [c21]) (by decide) ?_
 . simp only [pcOn, List.map_cons, List.map_nil, hfL, hf_lend_sl, hf_lend_int, hf_lend_bool, hf_lend_str, hfL_append, Bool.and_self, Bool.and_true, Bool.true_and, c21, hf_putA]
 unfold c21
 rw [List.map_cons, List.map_cons, List.map_nil, e1, e2]
 by_cases h : (l.length : Int) = m.length
 case neg =>
   have h' : ¬ l = m := fun e => h (by rw [e])
   simp (disch := omega) only [wk, tupled, ↓reduceIte, reduceEqDiff, reduceEq, reduceAdd, reduceCtorEq, h, purify, unownT, lend, unown, AV.hf, h']
 simp (disch := omega) only [wk, tupled, ↓reduceIte, reduceEqDiff, reduceEq, reduceAdd, reduceCtorEq]
 refine loop_ind (fun (x : List (Int × Int) × List (Int × Int) × List (Int × Int)) E df H => l = x.1 ++ x.2.1 /\ m = x.1 ++ x.2.2 /\ E 0 = .sl s1 l.length (encs putA l) u1 /\ E 1 = .sl s2 m.length (encs putA m) u2 /\ E 5 = .int .i64 (x.1.length : Nat) /\ df = [] /\ H = [])
   (fun x => x.2.1.length) ([], l, m) (by decide) (.inl rfl) ⟨rfl, rfl, rfl, rfl, rfl, rfl, rfl⟩ ?_
 intro ⟨pre, q1, q2⟩ E df H ih hP
 obtain ⟨a1, a2, E0, E1, E5, hdf, hH⟩ := hP
 dsimp only at a1 a2 E5
 subst hdf hH a1 a2
 simp only [List.length_append] at h hl
 cases q1 with
 | nil =>
   cases q2 with
   | nil => simp (disch := omega) only [wk, tupled, ↓reduceIte, reduceEqDiff, reduceEq, reduceAdd, reduceCtorEq, E0, E1, E5, purify, unownT, lend, unown, AV.hf]
   | cons _ _ => exfalso; simp only [List.length_nil, List.length_cons] at h; omega
 | cons x r1 =>
   cases q2 with
   | nil => exfalso; simp only [List.length_nil, List.length_cons] at h; omega
   | cons y r2 =>
     simp only [List.length_cons] at h hl
     obtain rfl := hz1 (by simp)
     obtain rfl := hz2 (by simp)
     obtain ⟨x1, x2⟩ := x
     obtain ⟨y1, y2⟩ := y
     simp (disch := omega) only [wk, tupled, ↓reduceIte, reduceEqDiff, reduceEq, reduceAdd, reduceCtorEq, E0, E1, E5, putA]
     by_cases hxy : x1 = y1 /\ x2 = y2
     . obtain ⟨rfl, rfl⟩ := hxy
       simp (disch := omega) only [wk, tupled, ↓reduceIte, reduceEqDiff, reduceEq, reduceAdd, reduceCtorEq, E0, E1, E5]
       refine ih (pre ++ [(x1, x2)], r1, r2) _ _ _ (by simp) ?_
       exact ⟨by simp, by simp, by simp only [en, ↓reduceIte, reduceEqDiff, E0], by simp only [en, ↓reduceIte, reduceEqDiff, E1], by simp only [en, ↓reduceIte, reduceEqDiff], rfl, rfl⟩
     . have h' : ¬ (pre ++ (x1, x2) :: r1 = pre ++ (y1, y2) :: r2) := by
         intro e
         simp only [List.append_cancel_left_eq, List.cons.injEq, Prod.mk.injEq] at e
         exact hxy e.1
       simp (disch := omega) only [wk, tupled, ↓reduceIte, reduceEqDiff, reduceEq, reduceAdd, reduceCtorEq, hxy, purify, unownT, lend, unown, AV.hf, h']
theorem jnum_px (n : Int) (H : Heap) : pcx (cbL tab) 12 [.int .i64 n] H = some (.plain (.int .i64 n)) := by
 refine pcx_N rfl (pc_wp (fi := c12) rfl rfl (by simp [c12]) (by decide) ?_)
 unfold c12
 rw [List.map_cons, List.map_nil, lend_int]
 simp (disch := omega) only [wk, tupled, ↓reduceIte, reduceEqDiff, reduceEq, reduceAdd, reduceCtorEq, purify, unownT, lend, unown, AV.hf, hfL, Tk.hf]
def fr0 : Frm := ⟨32, 8, 16, 8⟩
def ly0 : Ly := ⟨1, 2, 9, 11, 15, 16⟩
theorem ly0_t : LyT ly0 := ⟨(⟨by decide, by decide⟩ : U64 1), (⟨by decide, by decide⟩ : U64 2)⟩
theorem home_px (H : Heap) : pcx (cbL tab) 23 [] H = some (.plain (lyV fr0 ly0)) := by
 have rp := fun H => rof_px fr0 1 2 H
 rw [if_pos (by decide)] at rp
 refine pcx_N rfl (pc_wp (fi := c23) rfl rfl (by simp [c23]) (by decide) ?_)
 unfold c23
 have e : AV.agg (layA fr0 1 2) = lyV fr0 ly0 := rfl
 rw [e] at rp
 unfold lyV lyA frmA fr0 ly0 at *
 simp only [List.cons_append, List.nil_append] at rp ⊢
 rw [List.map_nil]
 simp (disch := omega) only [wk, tupled, ↓reduceIte, reduceEqDiff, reduceEq, reduceAdd, reduceCtorEq, rp, purify, unownT, lend, unown, AV.hf, hfL, Tk.hf]
def re0 : Redo := ⟨2, 5, ws0, 1, 1, 2, 3, 4, false⟩
theorem re0_t : RedT re0 := ⟨by decide, by decide, by decide, by decide, rfl, fun x hx => by have := (List.mem_replicate.1 hx).2; subst this; exact ⟨by decide, by decide⟩, by decide, by decide, by decide, by decide, (⟨by decide, by decide⟩ : U64 2), (⟨by decide, by decide⟩ : U64 3), by decide, by decide⟩
theorem jworks_px (H : Heap) : pcx (cbL tab) 8 [] H = some (.plain (.bool true)) := by
 have hp := fun H => home_px H
 have wp := fun H => jwords_px (f := fr0) ly0_t re0_t H
 have ck : checkJ fr0 ly0 re0 = 0 := by decide
 have sp := fun H => jstrike_px fr0 ly0 2 H
 have se : strikeJ fr0 ly0 2 = ([(192, 0)], 0) := if_pos (by decide)
 rw [se] at sp
 have np := fun n H => jnum_px n H
 obtain ⟨z, hz⟩ : ∃ z : Int, z = moreM 0 (bytM (plainR re0)) := ⟨_, rfl⟩
 have we : wordsJV fr0 ly0 re0 = .tup [.sl 1 9 [.int .u64 1794, .int .u64 1, .int .u64 2, .int .u64 1, .int .u64 3, .int .u64 4, .int .u64 5, .int .u64 0, .int .u64 z] .ro, .int .i64 0] := by
   unfold wordsJV wordsJ
   rw [if_pos ck, ck]
   have : wordsR re0 = [1794, 1, 2, 1, 3, 4, 5, 0, z] := by rw [hz]; rfl
   rw [this]
   rfl
 rw [we] at wp
 have o0 : ∀ l : List Int, l.length = 64 -> l.getD 0 0 = 0 -> outJ fr0 ly0 l = (red0, false, 0) := fun l h1 h2 => by
   unfold outJ
   rw [if_pos (by decide)]
   unfold ofW
   rw [if_neg (fun h => h h1), if_pos h2]
 have o1 : ∀ l : List Int, l.length = 64 -> l.getD 0 0 = 1 -> outJ fr0 ly0 l = (red0, false, 310) := fun l h1 h2 => by
   unfold outJ
   rw [if_pos (by decide)]
   unfold ofW
   rw [if_neg (fun h => h h1), if_neg (by rw [h2]; decide), if_neg]
   rintro ⟨h, _⟩
   rw [h2] at h
   rcases h with h | ⟨h, _⟩ <;> cases h
 have er : repL 64 [AV.int .u64 0] = encs u64A (List.replicate 64 0) := rfl
 have hu : ∀ x ∈ (List.replicate 64 0 : List Int), U64 x := fun x hx => by have := (List.mem_replicate.1 hx).2; subst this; exact ⟨by decide, by decide⟩
 have hu1 : ∀ x ∈ (1 :: List.replicate 63 0 : List Int), U64 x := fun x hx => by
   rcases List.mem_cons.1 hx with rfl | hx
   . exact ⟨by decide, by decide⟩
   . have := (List.mem_replicate.1 hx).2; subst this; exact ⟨by decide, by decide⟩
 have p0 : ∀ H, pcx (cbL tab) 10 [lyV fr0 ly0, .sl 1 (List.replicate 64 0 : List Int).length (encs u64A (List.replicate 64 0) ++ []) .e] H = some (.plain (outV (outJ fr0 ly0 (List.replicate 64 0)))) := fun H =>
   pcx_L rfl (by rw [List.map_cons, List.map_cons, List.map_nil, lendK_sl]; rfl) (jof_1 (f := fr0) ly0_t (List.replicate 64 0) [] 1 .e (fun _ => rfl) rfl rfl hu (by decide) (.inr (.inr (.inl ⟨by decide, rfl, rfl⟩)))) (bare_out _)
 have p1 := fun H v hv => jof_px' (f := fr0) ly0_t (1 :: List.replicate 63 0) [] 1 .ro (.inl rfl) (fun _ => rfl) rfl rfl hu1 (by decide) H v hv
 rw [o0 _ rfl rfl] at p0
 rw [o1 _ rfl rfl] at p1
 refine pcx_N rfl (pc_wp (fi := c8) rfl rfl (by simp [c8]) (by decide) ?_)
 unfold c8
 rw [List.map_nil]
 unfold outV at p0 p1
 unfold putsV at sp
 have e1 : slvR 2 putA [((192 : Int), (0 : Int))] = .sl 2 1 [.int .i64 192, .int .u64 0] .ro := rfl
 rw [e1] at sp
 have ra : redA re0 = [.int .i64 2, .int .i64 5, .int .u64 0, .int .u64 0, .int .u64 0, .int .u64 0, .int .u64 0, .int .u64 0, .int .u64 0, .int .u64 0, .int .u64 0, .int .u64 0, .int .u64 0, .int .u64 0, .int .u64 0, .int .u64 0, .int .u64 0, .int .u64 0, .int .i64 1, .int .i64 1, .int .u64 2, .int .u64 3, .int .i64 4, .bool false] := rfl
 rw [ra] at wp
 rw [red0_lit] at p0 p1
 dsimp only at p0 p1 sp
 have q0 : (List.replicate 64 0 : List Int).length = 64 := rfl
 rw [q0, List.append_nil] at p0
 generalize hR : encs u64A (List.replicate 64 0) = R at *
 have lR : R.length = 64 := by rw [<- hR]; rfl
 have oR : allOne R = true := by rw [<- hR]; rfl
 unfold lyV lyA frmA fr0 ly0 at hp wp sp p0 p1
 simp only [List.cons_append, List.nil_append] at hp wp sp p0 p1
 have j64 : (64 : Int).toNat = 64 := rfl
 have j192 : (8 : Int).toNat = 8 := rfl
 have le0 : (0 : Int) <= 64 := by decide
 have lk : ∀ H : Heap, H[1]? = some (.cells (AV.int .u64 1 :: List.drop 1 R)) -> lendK H 4 (.msl 1 1 0 64) = .sl 1 (1 :: List.replicate 63 0 : List Int).length (encs u64A (1 :: List.replicate 63 0) ++ []) .ro := fun H h => by
   show (match H[1]? with
     | some (AObj.cells cs) => if 0 + 64 * 1 <= cs.length then AV.sl 1 64 (((cs.drop 0).take (64 * 1)).map (lendK H 3)) .ro else AV.msl 1 1 0 64
     | _ => AV.msl 1 1 0 64) = _
   rw [h, <- hR]
   rfl
 have p2 := fun z0 : AObj => p1 [z0, .cells (AV.int .u64 1 :: List.drop 1 R)] _ (lk _ rfl)
 have sm := fun H => same_px [1794, 1, 2, 1, 3, 4, 5, 0] [1794, 1, 2, 1, 3, 4, 5, 0] [.int .u64 z] [] 1 1 .ro .ro H (by decide) (by decide) (fun _ => rfl) (fun _ => rfl) rfl rfl
 have sq := fun H => pcx_N (H := H) rfl (samePuts_pc [(192, 0)] [(192, 0)] 2 2 .ro .ro (fun _ => rfl) (fun _ => rfl) (by decide))
 rw [decide_eq_true rfl] at sm sq
 have es : encs u64A ([1794, 1, 2, 1, 3, 4, 5, 0] : List Int) = [.int .u64 1794, .int .u64 1, .int .u64 2, .int .u64 1, .int .u64 3, .int .u64 4, .int .u64 5, .int .u64 0] := rfl
 have ep : encs putA [((192 : Int), (0 : Int))] = [.int .i64 192, .int .u64 0] := rfl
 rw [es] at sm
 rw [ep] at sq
 simp only [List.length_cons, List.length_nil, Nat.zero_add, List.append_nil, List.cons_append, List.nil_append, Nat.reduceAdd] at sm sq
 have rp8 : List.replicate 8 (AV.int .u64 0) = [.int .u64 0, .int .u64 0, .int .u64 0, .int .u64 0, .int .u64 0, .int .u64 0, .int .u64 0, .int .u64 0] := rfl
 have c9 : ((9 : Nat) : Int) = 9 := rfl
 simp (disch := omega) only [wk, tupled, ↓reduceIte, reduceEqDiff, reduceEq, reduceAdd, reduceCtorEq, hp, wp, p0, madeN, er, sp, np, j64, le0, lR, oR, hR, red0_lit, Int.toNat_zero, Nat.zero_add, p2, sm, sq, rp8, j192, c9, Int.reduceToNat, Int.reduceAdd, Int.reduceSub, Int.reduceMul, Int.reduceNeg, Nat.reduceSub, Nat.reduceDiv, purify, unownT, lend, unown, AV.hf, hfL, Tk.hf]
def frm0 : Frm := ⟨0, 0, 0, 0⟩
def lawF (f : Frm) : Frm := if okF f then f else frm0
def lawY (f : Frm) (b : Bool) : Ly :=
 if okF f then ⟨3, 4, 9, 9 + f.i / 4, 9 + f.i / 4 + f.r / 4 + (if b then 1 else 0), 9 + f.i / 4 + f.r / 4 + 1⟩ else ⟨0, 0, 0, 0, if b then 1 else 0, 0⟩
theorem lawY_t (f : Frm) (b : Bool) : LyT (lawY f b) := by
 unfold lawY
 split
 . exact ⟨(⟨by decide, by decide⟩ : U64 3), (⟨by decide, by decide⟩ : U64 4)⟩
 . exact ⟨(⟨by decide, by decide⟩ : U64 0), (⟨by decide, by decide⟩ : U64 0)⟩
theorem llay_px (f : Frm) (b : Bool) (H : Heap) : pcx (cbL tab) 9 [.agg (frmA f), .bool b] H = some (.plain (lyV (lawF f) (lawY f b))) := by
 have rp := fun H => rof_px f 3 4 H
 refine pcx_N rfl (pc_wp (fi := c9) rfl rfl (by simp [c9]) (by decide) ?_)
 unfold c9
 have lf : lend (.agg (frmA f)) = .agg (frmA f) := rfl
 have lb : lend (.bool b) = .bool b := rfl
 rw [List.map_cons, List.map_cons, List.map_nil, lf, lb]
 unfold lawF lawY lyV lyA
 by_cases h : okF f
 . rw [if_pos h] at rp
   rw [if_pos h, if_pos h]
   obtain ⟨_, _, h3, h4, _, h6, h7, _⟩ := h
   unfold layA frmA at *
   simp only [List.cons_append, List.nil_append] at rp ⊢
   cases b
   . simp (disch := omega) only [wk, tupled, ↓reduceIte, reduceEqDiff, reduceEq, reduceAdd, reduceCtorEq, rp, purify, unownT, lend, unown, AV.hf, hfL, Tk.hf, Int.add_zero]
   . have e : IntKind.i64.wrap (9 + f.i / 4 + f.r / 4 + 1) = 9 + f.i / 4 + f.r / 4 + 1 := wrap_i64 (by omega) (by omega)
     simp (disch := omega) only [wk, tupled, ↓reduceIte, reduceEqDiff, reduceEq, reduceAdd, reduceCtorEq, rp, purify, unownT, lend, unown, AV.hf, hfL, Tk.hf]
 . rw [if_neg h] at rp
   rw [if_neg h, if_neg h]
   unfold lyz at rp
   unfold frm0 frmA at *
   simp only [List.cons_append, List.nil_append] at rp ⊢
   cases b
   . simp (disch := omega) only [wk, tupled, ↓reduceIte, reduceEqDiff, reduceEq, reduceAdd, reduceCtorEq, rp, purify, unownT, lend, unown, AV.hf, hfL, Tk.hf]
   . simp (disch := omega) only [wk, tupled, ↓reduceIte, reduceEqDiff, reduceEq, reduceAdd, reduceCtorEq, rp, Int.reduceToNat, Int.reduceAdd, Int.reduceSub, Int.reduceMul, Int.reduceNeg, Nat.reduceSub, Nat.reduceDiv, purify, unownT, lend, unown, AV.hf, hfL, Tk.hf]
theorem okL_frm {l : List AV} (h0 : OkL [.int .i64, .int .i64, .int .i64, .int .i64] l) : ∃ f : Frm, l = frmA f := by
 obtain ⟨hl, h⟩ := h0
 match l, hl with
 | [a0, a1, a2, a3], _ =>
   have o0 := h 0 _ _ rfl rfl
   have o1 := h 1 _ _ rfl rfl
   have o2 := h 2 _ _ rfl rfl
   have o3 := h 3 _ _ rfl rfl
   cases o0 with | int _ n0 _ _ =>
   cases o1 with | int _ n1 _ _ =>
   cases o2 with | int _ n2 _ _ =>
   cases o3 with | int _ n3 _ _ =>
   exact ⟨⟨n0, n1, n2, n3⟩, rfl⟩
def i8 : List Sh := [.int .i64, .int .i64, .int .u64, .int .u64, .int .u64, .int .u64, .int .u64, .int .u64, .int .u64, .int .u64, .int .u64, .int .u64, .int .u64, .int .u64, .int .u64, .int .u64, .int .u64, .int .u64, .int .i64, .int .i64, .int .u64, .int .u64, .int .i64, .bool]
theorem ok_wordsJ {v : AV} (h : OkS (.slice [.int .u64]) v) : ∃ (xs : List Int) (tk : Tk), v = .sl 1 xs.length (encs u64A xs) tk /\ ∀ x ∈ xs, U64 x := by
 cases h with
 | slnil _ => exact ⟨[], .z, rfl, fun x hx => by simp at hx⟩
 | sl _ rows hm hl hr =>
   have : ∀ rows : List (List AV), (∀ r ∈ rows, r.length = 1) -> (∀ r ∈ rows, ∀ (i : Nat) (s : Sh) (v : AV), [Sh.int .u64][i]? = some s -> r[i]? = some v -> OkS s v) →
       ∃ xs : List Int, rows.flatten = encs u64A xs /\ xs.length = rows.length /\ ∀ x ∈ xs, U64 x := by
     intro rows
     induction rows with
     | nil => intro _ _; exact ⟨[], rfl, rfl, fun x hx => by simp at hx⟩
     | cons r rows ih =>
       intro h1 h2
       obtain ⟨xs, k1, k2, k3⟩ := ih (fun r hr => h1 r (List.mem_cons_of_mem _ hr)) (fun r hr => h2 r (List.mem_cons_of_mem _ hr))
       have hr1 := h1 r (List.mem_cons_self ..)
       match r, hr1 with
       | [v], _ =>
         have := h2 [v] (List.mem_cons_self ..) 0 _ v rfl rfl
         cases this with
         | int _ n b1 b2 =>
           have b1 : 0 <= n := b1
           have b2 : n <= 18446744073709551615 := b2
           refine ⟨n :: xs, by rw [List.flatten_cons, k1, encs_cons]; rfl, by simp [k2], fun x hx => ?_⟩
           rcases List.mem_cons.1 hx with rfl | hx
           . exact ⟨b1, by omega⟩
           . exact k3 x hx
   obtain ⟨xs, k1, k2, k3⟩ := this rows hl hr
   exact ⟨xs, .ro, by rw [k1, k2]; rfl, k3⟩
theorem runX_app0 {cb : CB} {rd : Option Nat} {n : Nat} {Q : KP} {ks : List Kt} {E : Env} {df : List ADf} {H : Heap} {sz bytes : Nat} {x : AV} {m : Nat} {ds : List AV} {tk : Tk} {n0 : Nat} {cs : List AV} {d : Option Nat} {rest : List AOper} {s : Nat} (ho : Own H sz x n0 cs) (hs : m ≠ 0 -> s = sz) (hz : 0 < sz) (hb : (n0 + m) * bytes <= 70368744177664) (hb2 : n0 + m <= 70368744177664)
   (hl : ds.length = m * sz) (h1 : allOne ds = true)
   (k : ∀ v H', Own H' sz v (n0 + m) (cs ++ ds) -> Kept (tokOf x) H H' -> RR cb rd n Q rest ks (updD E d v) df H') :
   RunX (appV sz bytes x (.sl s m ds tk) H) d rest cb rd n Q ks E df := by
 by_cases hm : m = 0
 . subst hm
   have : ds = [] := List.length_eq_zero_iff.1 (by omega)
   subst this
   have e : appV sz bytes x (.sl s 0 [] tk) H = some (.val x, H) := by
     rcases ho with ⟨hx, rfl, rfl⟩ | ⟨h0, g, rfl, hg⟩
     . rcases hx with rfl | rfl <;> simp [appV, hz]
     . have c : 0 < sz /\ (n0 + 0) * bytes <= 70368744177664 /\ n0 + 0 <= 70368744177664 := ⟨hz, hb, hb2⟩
       simp only [appV, if_pos c, if_true]
   rw [e]
   have := k x H (by rw [List.append_nil]; exact ho) (fun _ _ h _ => h)
   simp only [runX_val]
   exact this
 . obtain rfl := hs hm
   exact runX_app ho hz hb hb2 hm hl h1 fun H' q1 q2 _ => k _ H' q1 q2
theorem ofW_len (f : Frm) (w : List Int) : (ofW f w).1.ws.length = 16 := by
 unfold ofW
 split
 . rfl
 . split
   . rfl
   . split
     . rename_i h _ _
       unfold decR
       split
       . show ((w.drop 2).take 16).length = 16
         rw [List.length_take, List.length_drop]
         omega
       . rfl
     . rfl
theorem outJ_len (f : Frm) (y : Ly) (w : List Int) : (outJ f y w).1.ws.length = 16 := by
 unfold outJ
 split
 . exact ofW_len f w
 . rfl
theorem red24 {r : Redo} (h : r.ws.length = 16) : (redA r).length = 24 := by
 unfold redA
 simp only [List.length_cons, List.length_append, lenU, h, List.length_nil]
theorem redOne (r : Redo) : allOne (redA r) = true := by
 have e : redA r = [.int .i64 r.k, .int .i64 r.i] ++ (encs u64A r.ws ++ [.int .i64 r.fr, .int .i64 r.to, .int .u64 r.fk, .int .u64 r.tk, .int .i64 r.rc, .bool r.dir]) := rfl
 rw [e, allOne_append, allOne_append, one_u64A]
 rfl
theorem journalReads_pc {l : List AV} {b w : AV} {m : AV} (h0 : OkL [.int .i64, .int .i64, .int .i64, .int .i64] l) (h1 : OkS .bool b) (h2 : OkS (.slice [.int .u64]) w) (h3 : OkS .bool m) :
   (cbL tab).pc 3 [.agg l, b, w, m] = some (.plain (.bool true)) := by
 obtain ⟨f, rfl⟩ := okL_frm h0
 cases h1 with | bool b =>
 obtain ⟨xs, tk, rfl, hw⟩ := ok_wordsJ h2
 cases h3 with | bool m =>
 obtain ⟨u1, e1, f1⟩ := lend_sl 1 xs.length (encs u64A xs) tk
 refine pc_wp (fi := c3) rfl ?_ (by simp [c3]) (by decide) ?_
 . have lf : (lend (.agg (frmA f))).hf = true := rfl
   simp only [pcOn, List.map_cons, List.map_nil, hfL, hf_lend_sl, hf_lend_int, hf_lend_bool, hf_lend_str, hfL_append, Bool.and_self, Bool.and_true, Bool.true_and, c3, hf_u64A, lf]
 have lf : lend (.agg (frmA f)) = .agg (frmA f) := rfl
 have lb : ∀ b, lend (.bool b) = .bool b := fun _ => rfl
 rw [List.map_cons, List.map_cons, List.map_cons, List.map_cons, List.map_nil, lf, lb, lb, e1]
 unfold c3
 have hly := fun H => llay_px f b H
 by_cases h70 : 70 < xs.length
 . have h70' : (70 : Int) < xs.length := by omega
   unfold frmA at hly ⊢
   simp (disch := omega) only [wk, tupled, ↓reduceIte, reduceEqDiff, reduceEq, reduceAdd, reduceCtorEq, h70', jworks_px, purify, unownT, lend, unown, AV.hf, hfL, Tk.hf]
 have h70' : ¬ (70 : Int) < xs.length := by omega
 have hY := lawY_t f b
 generalize lawF f = F at *
 generalize lawY f b = Y at *
 have jo := fun (v : List Int) (hv : ∀ x ∈ v, U64 x) (hl : v.length <= 1000) H => jof_px (f := F) hY v [.int .u64 77] 1 .ro (.inl rfl) (fun _ => rfl) rfl rfl hv hl H
 obtain ⟨Lv, hLv⟩ : ∃ Lv, Lv = lyA F Y.k0 Y.k1 Y.c Y.d Y.e Y.g := ⟨_, rfl⟩
 have hL10 : Lv.length = 10 := by rw [hLv]; rfl
 have hLo : allOne Lv = true := by rw [hLv]; rfl
 have tL : List.take 10 Lv = Lv := List.take_of_length_le (by omega)
 unfold lyV at hly jo
 rw [<- hLv] at hly jo
 unfold frmA at hly ⊢
 have lx := lenU xs
 have tx : List.take xs.length (encs u64A xs) = encs u64A xs := List.take_of_length_le (by omega)
 simp (disch := omega) only [wk, tupled, ↓reduceIte, reduceEqDiff, reduceEq, reduceAdd, reduceCtorEq, h70', hly, hLo, hL10, tL, List.append_nil]
 obtain ⟨L0, hL0⟩ : ∃ L0 : AObj, L0 = .cells [.int .i64 f.b, .int .i64 f.i, .int .i64 f.r, .int .i64 f.t] := ⟨_, rfl⟩
 rw [<- hL0]
 have nt0 : ∀ s, L0 ≠ .tok s := fun s => by rw [hL0]; intro h; cases h
 refine runX_app0 (n0 := 0) (cs := []) (.inl ⟨.inr rfl, rfl, rfl⟩) (fun _ => rfl) (by decide) (by omega) (by omega) (by omega) (one_u64A xs) (fun v1 H1 o1 k1 => ?_)
 rw [Nat.zero_add, List.nil_append] at o1
 have k10 : H1[0]? = some L0 := k1 0 _ rfl (by intro h; cases h)
 have k11 : H1[1]? = some (.cells Lv) := k1 1 _ rfl (by intro h; cases h)
 have ro := fun (v : List Int) (s : Nat) (tk : Tk) (hs : v ≠ [] -> s = 1) (hv : ∀ x ∈ v, U64 x) (hl : v.length <= 1000) H => rof21_px (f := F) (y := Y) v [] s tk hs rfl hv hl H
 unfold lyV at ro
 rw [<- hLv] at ro
 simp (disch := omega) only [wk, tupled, ↓reduceIte, reduceEqDiff, reduceEq, reduceAdd, reduceCtorEq]
 refine loop_ind (fun (z : List Int) E df H2 => (z.length <= 70 /\ (∀ x ∈ z, U64 x)) /\ E 3 = .bool m /\ E 4 = .ptr 0 0 /\ E 8 = .bool false /\ E 9 = .ptr 1 0 /\ df = [] /\ H2[1]? = some (.cells Lv) /\ Own H2 1 (E 10) z.length (encs u64A z))
   (fun z => 100 - z.length) xs (by decide) (.inl rfl) ⟨⟨by omega, hw⟩, rfl, rfl, rfl, rfl, rfl, k11, o1⟩ ?_
 intro z E df H2 ih hP
 obtain ⟨⟨hz, hzu⟩, E3, E4, E8, E9, hdf, h21, ho⟩ := hP
 subst hdf
 obtain ⟨s, tk2, E10, hs1⟩ : ∃ s tk, E 10 = .sl s z.length (encs u64A z) tk /\ (z ≠ [] -> s = 1) := by
   rcases ho with ⟨h | h, h0, _⟩ | ⟨_, g, h, _⟩
   . exact ⟨_, _, h, fun hn => absurd (List.length_eq_zero_iff.1 h0) hn⟩
   . exact ⟨_, _, h, fun hn => absurd (List.length_eq_zero_iff.1 h0) hn⟩
   . exact ⟨_, _, h, fun _ => rfl⟩
 rw [E10] at ho
 by_cases hmore : m = true /\ z.length < 64
 . obtain ⟨rfl, hz2⟩ := hmore
   have hz3 : (z.length : Int) < 64 := by omega
   simp (disch := omega) only [wk, tupled, ↓reduceIte, reduceEqDiff, reduceEq, reduceAdd, reduceCtorEq, E3, E4, E8, E9, E10, hz3]
   refine runX_app ho (by decide) (by omega) (by omega) (by decide) rfl rfl (fun H3 q1 q2 _ => ?_)
   simp (disch := omega) only [wk, tupled, ↓reduceIte, reduceEqDiff, reduceEq, reduceAdd, reduceCtorEq, E3, E4, E8, E9]
   refine ih (z ++ [0]) _ _ _ (by simp; omega) ⟨⟨by simp; omega, fun x hx => ?_⟩, by simp only [en, ↓reduceIte, reduceEqDiff, E3], by simp only [en, ↓reduceIte, reduceEqDiff, E4], by simp only [en, ↓reduceIte, reduceEqDiff, E8], by simp only [en, ↓reduceIte, reduceEqDiff, E9], rfl, q2.cells ho rfl h21 (by intro s e; cases e), ?_⟩
   . rcases List.mem_append.1 hx with hx | hx
     . exact hzu x hx
     . simp at hx; subst hx; exact u0
   . simp only [en, ↓reduceIte, reduceEqDiff]
     have e : encs u64A (z ++ [0]) = encs u64A z ++ [.int .u64 0] := by rw [encs_append]; rfl
     rw [e]
     exact q1
 . have jo := jo z hzu (by omega)
   have ro := ro z s tk2 hs1 hzu (by omega)
   have hx16 := outJ_len F Y z
   generalize outJ F Y z = O at jo ro hx16
   obtain ⟨r, is, e⟩ := O
   dsimp only at hx16
   unfold outV at jo ro
   dsimp only at jo ro
   have lR := red24 hx16
   have oR := redOne r
   have rq := fun xo yo => red_eqv (xo := xo) (yo := yo) hx16 hx16
   rw [decide_eq_true rfl] at rq
   unfold redK at rq
   generalize redA r = R at jo ro lR oR rq
   have tR : List.take 24 R = R := List.take_of_length_le (by omega)
   have sm := fun H => same_px z z [.int .u64 77] [] 1 s .ro tk2 H (by omega) (by omega) (fun _ => rfl) hs1 rfl rfl
   rw [decide_eq_true rfl] at sm
   have d77 : List.drop z.length (encs u64A z ++ [.int .u64 77]) = [.int .u64 77] := by
     rw [List.drop_append_of_le_length (by rw [lenU]; exact Nat.le_refl _), List.drop_of_length_le (by rw [lenU]; exact Nat.le_refl _)]; rfl
   have l77 : (encs u64A z ++ [AV.int .u64 77]).length = z.length + 1 := by rw [List.length_append, lenU]; rfl
   have hzz : ¬ (m = true /\ z.length < 64) := hmore
   rw [List.append_nil] at ro sm
   have go : ∀ E' : Env, E' 4 = .ptr 0 0 -> E' 8 = .bool false -> E' 9 = .ptr 1 0 -> E' 10 = .sl s z.length (encs u64A z) tk2 -> True := fun _ _ _ _ _ => trivial
   clear go
   have hm2 : m = false ∨ (m = true /\ ¬ (z.length : Int) < 64) := by
     cases m
     . exact .inl rfl
     . exact .inr ⟨rfl, fun h => hmore ⟨rfl, by omega⟩⟩
   have lz := lenU z
   have lz2 : z.length * 1 = z.length := Nat.mul_one _
   have n1 : z.length <= z.length + 1 := by omega
   have cN : ((z.length : Int) + 1).toNat = z.length + 1 := by omega
   have n2 : ¬ z.length = z.length + 1 := by omega
   have n4 : (z.length : Int) < ((z.length + 1 : Nat) : Int) := by omega
   have n3 : ¬ (0 = 0 /\ z.length = z.length + 1) := fun h => n2 h.2
   rcases hm2 with rfl | ⟨rfl, hz3⟩
   . simp (disch := omega) only [wk, tupled, ↓reduceIte, reduceEqDiff, reduceEq, reduceAdd, reduceCtorEq, E3, E4, E8, E9, E10]
     refine runX_app0 (n0 := 0) (cs := []) (.inl ⟨.inr rfl, rfl, rfl⟩) (fun h => hs1 (fun e => h (by rw [e]; rfl))) (by decide) (by omega) (by omega) (by omega) (one_u64A z) (fun v1 H3 o3 k3 => ?_)
     rw [Nat.zero_add, List.nil_append] at o3
     have h31 := k3 1 _ h21 (by intro h; cases h)
     simp (disch := omega) only [wk, tupled, ↓reduceIte, reduceEqDiff, reduceEq, reduceAdd, reduceCtorEq, E3, E4, E8, E9, E10]
     refine runX_app o3 (by decide) (by omega) (by omega) (by decide) rfl rfl (fun H4 q1 q2 _ => ?_)
     have h41 := q2.cells o3 rfl h31 (by intro s e; cases e)
     have h4l := (List.getElem?_eq_some_iff.1 h41).1
     have g1 : ∀ o : AObj, (H4 ++ [o])[H4.length]? = some o := fun o => by simp
     have g2 : ∀ o o' : AObj, (H4 ++ [o]).set H4.length o' = H4 ++ [o'] := fun o o' => by simp
     have g3 : ∀ o : AObj, (H4 ++ [o])[1]? = some (.cells Lv) := fun o => by rw [List.getElem?_append_left h4l]; exact h41
     have g4 : ∀ o o' : AObj, (H4 ++ [o] ++ [o'])[H4.length + 1]? = some o' := fun o o' => by simp
     have g5 : ∀ o o' o'' : AObj, (H4 ++ [o] ++ [o']).set (H4.length + 1) o'' = H4 ++ [o] ++ [o''] := fun o o' o'' => by simp
     have g6 : ∀ o o' : AObj, (H4 ++ [o] ++ [o'])[H4.length]? = some o := fun o o' => by simp
     simp (disch := omega) only [wk, tupled, ↓reduceIte, reduceEqDiff, reduceEq, reduceAdd, reduceCtorEq, E3, E4, E8, E9, E10, l77, n1, n2, n3, h41, hL10, tL, jo, ro, g1, g2, g3, g4, g5, g6, lR, tR, oR, List.append_nil, rq, sm, d77, cN, jnum_px, jworks_px, purify, unownT, lend, unown, AV.hf, hfL, Tk.hf]
   . simp (disch := omega) only [wk, tupled, ↓reduceIte, reduceEqDiff, reduceEq, reduceAdd, reduceCtorEq, E3, E4, E8, E9, E10, hz3]
     refine runX_app0 (n0 := 0) (cs := []) (.inl ⟨.inr rfl, rfl, rfl⟩) (fun h => hs1 (fun e => h (by rw [e]; rfl))) (by decide) (by omega) (by omega) (by omega) (one_u64A z) (fun v1 H3 o3 k3 => ?_)
     rw [Nat.zero_add, List.nil_append] at o3
     have h31 := k3 1 _ h21 (by intro h; cases h)
     simp (disch := omega) only [wk, tupled, ↓reduceIte, reduceEqDiff, reduceEq, reduceAdd, reduceCtorEq, E3, E4, E8, E9, E10]
     refine runX_app o3 (by decide) (by omega) (by omega) (by decide) rfl rfl (fun H4 q1 q2 _ => ?_)
     have h41 := q2.cells o3 rfl h31 (by intro s e; cases e)
     have h4l := (List.getElem?_eq_some_iff.1 h41).1
     have g1 : ∀ o : AObj, (H4 ++ [o])[H4.length]? = some o := fun o => by simp
     have g2 : ∀ o o' : AObj, (H4 ++ [o]).set H4.length o' = H4 ++ [o'] := fun o o' => by simp
     have g3 : ∀ o : AObj, (H4 ++ [o])[1]? = some (.cells Lv) := fun o => by rw [List.getElem?_append_left h4l]; exact h41
     have g4 : ∀ o o' : AObj, (H4 ++ [o] ++ [o'])[H4.length + 1]? = some o' := fun o o' => by simp
     have g5 : ∀ o o' o'' : AObj, (H4 ++ [o] ++ [o']).set (H4.length + 1) o'' = H4 ++ [o] ++ [o''] := fun o o' o'' => by simp
     have g6 : ∀ o o' : AObj, (H4 ++ [o] ++ [o'])[H4.length]? = some o := fun o o' => by simp
     simp (disch := omega) only [wk, tupled, ↓reduceIte, reduceEqDiff, reduceEq, reduceAdd, reduceCtorEq, E3, E4, E8, E9, E10, l77, n1, n2, n3, h41, hL10, tL, jo, ro, g1, g2, g3, g4, g5, g6, lR, tR, oR, List.append_nil, rq, sm, d77, cN, jnum_px, jworks_px, purify, unownT, lend, unown, AV.hf, hfL, Tk.hf]
end Go.Proofs.YtobhofmicgmjfaaGreat
namespace Go.Proofs.YtobhofmicgmjfaaGreat
open Go Go.Proofs Go.Shelf Go.RowKit
def gren : Go.Shelf.Ren := ⟨fun | 4 => 60 | n => n, fun | 22 => 24 | 25 => 26 | n => n, fun | n => n⟩
theorem glays : Go.Proofs.Lays8.n4 Tryz.prog gren := {
 mixed := by kernel_rfl
 f4 := ⟨Tryz.f60.name, by kernel_rfl, Tryz.func60.trans (congrArg some (by kernel_rfl))⟩
 t0 := Tryz.underlying0
 a0 := Tryz.isAgg0
 z0 := Tryz.sizeOf0
 v0 := Tryz.zeroValue0
 t3 := Tryz.underlying3
 a3 := Tryz.isAgg3
 z3 := Tryz.sizeOf3
 v3 := Tryz.zeroValue3
 t4 := Tryz.underlying4
 a4 := Tryz.isAgg4
 z4 := Tryz.sizeOf4
 v4 := Tryz.zeroValue4
 t9 := Tryz.underlying9
 a9 := Tryz.isAgg9
 z9 := Tryz.sizeOf9
 v9 := Tryz.zeroValue9
 t20 := Tryz.underlying20
 a20 := Tryz.isAgg20
 z20 := Tryz.sizeOf20
 v20 := Tryz.zeroValue20
 t22 := Tryz.underlying24
 a22 := Tryz.isAgg24
 z22 := Tryz.sizeOf24
 v22 := Tryz.zeroValue24
}
theorem info9 : ∃ i, Tryz.prog.info? 26 = some i /\ i.zero = some (.int .u64 0) /\ i.size = 1 /\ i.bytes = 8 := by
 have h : (Tryz.prog.info? 26).map (fun i => (i.zero, i.size, i.bytes)) = some (some (.int .u64 0), 1, 8) := by kernel_rfl
 obtain ⟨i, hi, h2⟩ := Option.map_eq_some_iff.1 h
 simp only [Prod.mk.injEq] at h2
 exact ⟨i, hi, h2.1, h2.2.1, h2.2.2⟩
def GrownP (w : World) (n : Nat) (e : Ending) (w' : World) : Prop := ∃ v, e = .returned v /\ w'.ownsRow w.heap.size 26 1 v 0 [] /\ Below w.heap.size w w' /\ (n = 0 -> v = .slice none 0 0)
theorem grow_nil (n : Nat) (hn : n <= 4294967296) (w : World) :
   Calls Tryz.prog 60 #[.slice none 0 0, .int .i64 n] w (GrownP w n) := by
 by_cases h0 : n = 0
 . subst h0
   refine (Any8.slices_Grow_room glays none 0 0 0 w (Nat.le_refl _) (by omega) (by omega) (by omega)).mono ?_
   rintro e w' ⟨rfl, rfl⟩
   exact ⟨_, rfl, World.ownsRow_nil _ _ _ _, Below.refl _ _, fun _ => rfl⟩
 . obtain ⟨i, hi, hz, hs, hb⟩ := info9
   have hg := grownCap_ge w (0 + n) 0 26
   have hgl := grownCap_le_maxLen w (0 + n) 0 26 (by simp only [maxLen]; omega)
   refine (Any8.slices_Grow_grow glays i (.int .u64 0) hi hz (by omega) none 0 0 n [] w (Nat.le_refl _) (by omega) (by rw [hb]; omega) (by omega) (by simp) (fun _ => rfl) (fun a h => by cases h)).mono ?_
   rintro e w' ⟨rfl, rfl⟩
   refine ⟨_, rfl, World.ownsRow_made w.drew _ _ (Nat.le_refl _) hgl ?_, ((Below.refl _ w).drew).alloc (Nat.le_refl _) _, fun h => absurd h h0⟩
   have z1 : (.int .u64 0 : Value).cells.size = 1 := rfl
   have g1 : grownCap w (0 + n) 0 (gren.t 25) = grownCap w (0 + n) 0 26 := rfl
   simp only [Array.size_append, size_zeroCells, z1, Nat.mul_one, List.size_toArray, List.length_nil, g1]
   omega
structure CRow where
 a : Option Addr
 n : Nat
 c : Nat
 xs : List Value
def CRow.ok (w : World) (r : CRow) : Prop := r.xs.length = r.n * 1 /\ (r.a = none -> r.n = 0 /\ r.c = 0) /\ (∀ a, r.a = some a -> ∀ j u, r.xs[j]? = some u -> w.cell? (a.add j) = some u) /\ ∀ u ∈ r.xs, u.oneCell' = true
def sumN (l : List CRow) : Nat := (l.map (·.n)).sum
theorem sumN_take (l : List CRow) (k : Nat) : sumN (l.take k) <= sumN l := by
 induction l generalizing k with
 | nil => simp
 | cons r l ih =>
   cases k with
   | zero => simp [sumN]
   | succ k =>
     have := ih k
     simp only [sumN, List.take_succ_cons, List.map_cons, List.sum_cons] at this ⊢; omega
theorem sumN_succ (l : List CRow) (k : Nat) (r : CRow) (h : l[k]? = some r) : sumN (l.take (k + 1)) = sumN (l.take k) + r.n := by
 rw [List.take_add_one, h]
 simp [sumN]
theorem append_row (w wr : World) (v : Value) (n : Nat) (xs : List Value) (r : CRow) (ho : wr.ownsRow w.heap.size 26 1 v n xs) (hb : Below w.heap.size w wr) (hr : r.ok wr) (hs : n + r.n <= 4294967296) :
   ∃ v' w', (∀ ty, (Builtin.append_ #[24, 24] ty #[v, .slice r.a r.n r.c]).run Tryz.prog wr = .ok v' w') /\ w'.ownsRow w.heap.size 26 1 v' (n + r.n) (xs ++ r.xs) /\ Below w.heap.size w w' /\ (v = .slice none 0 0 -> r.n = 0 -> v' = .slice none 0 0) := by
 obtain ⟨i, hi, hz, hsz, hby⟩ := info9
 obtain ⟨h1, h2, h3, h4⟩ := hr
 obtain ⟨a, m, c, ys⟩ := r
 dsimp only at *
 have hsize := hb.size
 cases a with
 | none =>
   obtain ⟨rfl, rfl⟩ := h2 rfl
   have : ys = [] := List.eq_nil_of_length_eq_zero (by omega)
   subst this
   refine ⟨v, wr, fun ty => run_append_owned_none wr w.heap.size 24 ty 26 i 1 Tryz.underlying24 hi v n xs ho, by simpa using ho, hb, fun h _ => h⟩
 | some a =>
   have key : ∀ ty, ∃ v' w', (Builtin.append_ #[24, 24] ty #[v, .slice (some a) m c]).run Tryz.prog wr = .ok v' w' /\ w'.ownsRow w.heap.size 26 1 v' (n + m) (xs ++ ys) /\ wr.grownBy w' v.ownBlock /\ (v' = .slice none 0 0 ↔ v = .slice none 0 0 /\ m = 0) := fun ty =>
     run_append_own wr w.heap.size 24 ty 26 i (.int .u64 0) 1 8 Tryz.underlying24 hi hz hsz hby rfl (by omega) v n xs ho a m c ys (by omega) (h3 a rfl) h4 (by simp only [maxLen]; omega) (by omega) hsize
   obtain ⟨v', w', k1, k2, k3, k4⟩ := key 0
   refine ⟨v', w', fun ty => ?_, k2, hb.grown k3 hsize (fun k hk => (ho.lt k hk).1), fun h h' => k4.2 ⟨h, h'⟩⟩
   rw [<- k1]
   rfl
def ConcP (rows : List CRow) (w : World) (e : Ending) (w' : World) : Prop := ∃ v, e = .returned v /\ w'.ownsRow w.heap.size 26 1 v (sumN rows) (rows.flatMap (·.xs)) /\ Below w.heap.size w w' /\ (sumN rows = 0 -> v = .slice none 0 0)
set_option maxHeartbeats 4000000 in
set_option maxRecDepth 1000000 in
theorem concat_walk (base : Addr) (N cap : Nat) (rows : List CRow) (w : World) (hl : rows.length = N) (hN : N <= 4294967296)
   (hc : ∀ i r, rows[i]? = some r -> w.cell? (base.add i) = some (.slice r.a r.n r.c)) (hr : ∀ r ∈ rows, r.ok w) (ht : sumN rows <= 4294967296) :
   Calls Tryz.prog 38 #[.slice (some base) N cap] w (ConcP rows w) := by
 go_enter Tryz.func38, Tryz.ntmps38
 go_wp2
 go_loopw [3, 11] (fun s i wr => ∃ (k : Nat), k <= N /\ i = .int .i64 k /\ s = .int .i64 (sumN (rows.take k) : Nat) /\ wr = w) (fun s i _ => N - (RowKit.intOf i).toNat)
 case atStart => exact ⟨0, by omega, rfl, rfl, rfl⟩
 case round =>
   obtain ⟨k, hk, rfl, rfl, hww⟩ := hrel
   have hww := hww.symm
   subst hww
   by_cases hp : k < N
   . obtain ⟨r, hrk⟩ : ∃ r, rows[k]? = some r := ⟨_, List.getElem?_eq_getElem (by omega)⟩
     have hcell := hc k r hrk
     have hss := sumN_succ rows k r hrk
     have hle := sumN_take rows (k + 1)
     rw [hss] at hle
     have hw : wrap64 ((sumN (rows.take k) : Int) + (r.n : Int)) = (sumN (rows.take k) : Int) + (r.n : Int) := by unfold wrap64; omega
     have hneg : ¬ ((sumN (rows.take k) : Int) + (r.n : Int) < 0) := by omega
     clear hrk hc
     go_wp2
     refine ⟨⟨k + 1, by omega, rfl, ?_, trivial⟩, ?_⟩
     . rw [hss]; rfl
     . show N - ((k : Int) + 1).toNat < N - (k : Int).toNat
       omega
   . obtain rfl : k = N := by omega
     have hall : rows.take k = rows := List.take_of_length_le (by omega)
     rw [hall]
     go_wp2_with (go_at_call 60; refine (grow_nil (sumN rows) ht w).mono ?_)
     rintro e W1 ⟨v, rfl, ho, hb, hn0⟩
     go_wp2
     go_loopw [6, 27] (fun s i wq => ∃ (j : Nat), j <= k /\ i = .int .i64 j /\ wq.ownsRow w.heap.size 26 1 s (sumN (rows.take j)) ((rows.take j).flatMap (·.xs)) /\ Below w.heap.size w wq /\ (sumN rows = 0 -> s = .slice none 0 0)) (fun s i _ => k - (RowKit.intOf i).toNat)
     case atStart => exact ⟨0, by omega, rfl, ho, hb, hn0⟩
     case round =>
       obtain ⟨j, hj, rfl, ho1, hb1, hn1⟩ := hrel
       by_cases hp : j < k
       . obtain ⟨r, hrk⟩ : ∃ r, rows[j]? = some r := ⟨_, List.getElem?_eq_getElem (by omega)⟩
         have hcell := hc j r hrk
         have hblk : (base.add j).block < w.heap.size := World.block_lt_of_cell? w (base.add j) hcell
         rw [<- hb1.cell (p := base.add j) hblk] at hcell
         have hss := sumN_succ rows j r hrk
         have hle := sumN_take rows (j + 1)
         rw [hss] at hle
         have hok : r.ok wr := by
           obtain ⟨q1, q2, q3, q4⟩ := hr r (List.mem_of_getElem? hrk)
           exact ⟨q1, q2, fun a ha i u hu => by
             have := q3 a ha i u hu
             rw [<- this]
             exact hb1.cell (World.block_lt_of_cell? w _ this), q4⟩
         have hxs : (rows.take (j + 1)).flatMap (·.xs) = (rows.take j).flatMap (·.xs) ++ r.xs := by
           rw [List.take_add_one, hrk]
           simp
         obtain ⟨v', w', k1, k2, k3, k4⟩ := append_row w wr _ _ _ r ho1 hb1 hok (by omega)
         rw [<- hxs, <- hss] at k2
         clear hrk hok hc hr
         go_wp2_with (at_builtin; refine Lib.wpList_append_run _ rfl _ _ _ _ rfl _ _ rfl rfl _ _ (k1 _) ?_)
         refine ⟨⟨j + 1, by omega, rfl, k2, k3, fun h0 => k4 (hn1 h0) (by have := sumN_take rows (j + 1); omega)⟩, ?_⟩
         show k - ((j : Int) + 1).toNat < k - (j : Int).toNat
         omega
       . obtain rfl : j = k := by omega
         rw [hall] at ho1
         go_wp2
         go_ret
         exact ⟨_, rfl, ho1, hb1, hn1⟩
end Go.Proofs.YtobhofmicgmjfaaGreat
namespace Go.Proofs.YtobhofmicgmjfaaGreat
open Go Go.Am Go.RowKit
variable [Thaw]
theorem add_none' (b o i : Nat) : (⟨b, o, none⟩ : Addr).add i = ⟨b, o + i, none⟩ := by unfold Addr.add; split <;> simp_all
theorem row_inv0 {V : View} {W : World} (hi : ∀ p v, V.imm p = some v -> W.cell? p = some v /\ v.oneCell' = true) {s n k : Nat} {cs : List AV} {tk : Tk} {v : Value} (h : Rep V (.sl s n cs tk) v) (hs : n = 0 ∨ s = k) (hn : n * k <= cs.length) :
   ∃ (a : Option Addr) (c : Nat) (xs : List Value), v = .slice a n c /\ xs.length = n * k /\ (a = none -> n = 0 /\ c = 0) /\ (∀ a', a = some a' -> ∀ j u, xs[j]? = some u -> W.cell? (a'.add j) = some u) /\ (∀ u ∈ xs, u.oneCell' = true) /\ RepL V (cs.take (n * k)) xs := by
 have main : ∀ (b o cap : Nat) (f : Nat -> Value), v = .slice (some ⟨b, o, none⟩) n cap -> (∀ i, i < cs.length -> V.imm ⟨b, o + i, none⟩ = some (f i)) -> (∀ (i : Nat) (x : AV), cs[i]? = some x -> Rep V x (f i)) -> ∃ (a : Option Addr) (c : Nat) (xs : List Value), v = .slice a n c /\ xs.length = n * k /\ (a = none -> n = 0 /\ c = 0) /\ (∀ a', a = some a' -> ∀ j u, xs[j]? = some u -> W.cell? (a'.add j) = some u) /\ (∀ u ∈ xs, u.oneCell' = true) /\ RepL V (cs.take (n * k)) xs := by
   intro b o cap f e h1 h2
   refine ⟨some ⟨b, o, none⟩, cap, (List.range (n * k)).map f, e, by simp, fun h => (by cases h), ?_, ?_, ?_, ?_⟩
   . intro a ha j u hu
     cases ha
     simp only [List.getElem?_map, Option.map_eq_some_iff] at hu
     obtain ⟨q, hk, rfl⟩ := hu
     obtain ⟨hlt, rfl⟩ := List.getElem?_eq_some_iff.1 hk
     simp only [List.length_range] at hlt
     simp only [List.getElem_range]
     rw [add_none']
     exact (hi _ _ (h1 j (by omega))).1
   . intro u hu
     obtain ⟨j, hj, rfl⟩ := List.mem_map.1 hu
     have := List.mem_range.1 hj
     exact (hi _ _ (h1 j (by omega))).2
   . simp; omega
   . intro i x v hx hv
     simp only [List.getElem?_map, Option.map_eq_some_iff] at hv
     obtain ⟨q, hk, rfl⟩ := hv
     obtain ⟨hlt, rfl⟩ := List.getElem?_eq_some_iff.1 hk
     simp only [List.getElem_range]
     rw [List.getElem?_take] at hx
     split at hx
     . exact h2 i x hx
     . cases hx
 cases h with
 | slnil => exact ⟨none, 0, [], rfl, by simp, fun _ => ⟨rfl, rfl⟩, fun a h => (by cases h), fun u h => (by cases h), by simpa using RepL.nil _⟩
 | slx _ a => exact ⟨some a, 0, [], rfl, by simp, fun h => (by cases h), fun a _ j u h => (by simp at h), fun u h => (by cases h), by simpa using RepL.nil _⟩
 | sl f a1 a2 a3 a4 a5 => exact main _ _ _ f rfl a4 a5
 | slo f a1 a2 a3 a4 a5 => exact main _ 0 _ f rfl (fun i h => by rw [Nat.zero_add]; exact a4 i h) a5
theorem row_inv {V : View} {W : World} (hi : ∀ p v, V.imm p = some v -> W.cell? p = some v /\ v.oneCell' = true) {s n : Nat} {cs : List AV} {tk : Tk} {v : Value} (h : Rep V (.sl s n cs tk) v) (hs : n = 0 ∨ s = 1) (hn : n * 1 <= cs.length) :
   ∃ r : CRow, v = .slice r.a r.n r.c /\ r.ok W /\ RepL V (cs.take (n * 1)) r.xs /\ r.n = n := by
 obtain ⟨a, c, xs, h1, h2, h3, h4, h5, h6⟩ := row_inv0 hi h hs hn
 exact ⟨⟨a, n, c, xs⟩, h1, ⟨h2, h3, h4, h5⟩, h6, rfl⟩
theorem rows_inv {V : View} {W : World} (hi : ∀ p v, V.imm p = some v -> W.cell? p = some v /\ v.oneCell' = true) : ∀ {cells : List AV} {vals : List Value} {L : List (List AV)}, RepL V cells vals -> rowsA cells = some L →
   ∃ rows : List CRow, rows.length = cells.length /\ (∀ (i : Nat) (r : CRow), rows[i]? = some r -> vals[i]? = some (.slice r.a r.n r.c)) /\ (∀ r ∈ rows, r.ok W) /\ RepL V L.flatten (rows.flatMap (·.xs)) /\ sumN rows * 1 = L.flatten.length
 | [], vals, L, h, hL => by
   cases hL
   exact ⟨[], rfl, fun i r h => (by simp at h), fun r h => (by cases h), RepL.nil _, rfl⟩
 | x :: cells, [], L, h, hL => by have := h.1; simp at this
 | x :: cells, v :: vals, L, h, hL => by
   unfold rowsA at hL
   split at hL
   . cases ‹_ :: _ = []›
   . rename_i s n cs tk r heq
     cases heq
     split at hL
     . rename_i hc
       obtain ⟨L', h1, rfl⟩ := Option.map_eq_some_iff.1 hL
       obtain ⟨r0, k1, k2, k3, k4⟩ := row_inv hi h.head hc.1 hc.2
       obtain ⟨rows, j1, j2, j3, j4, j5⟩ := rows_inv hi h.tail h1
       have hxl := k3.1
       rw [List.length_take] at hxl
       refine ⟨r0 :: rows, by simp [j1], fun i r hr => ?_, fun r hr => ?_, ?_, ?_⟩
       . cases i with
         | zero => simp at hr; subst hr; simp [k1]
         | succ i => simpa using j2 i r (by simpa using hr)
       . rcases List.mem_cons.1 hr with rfl | hr
         . exact k2
         . exact j3 r hr
       . exact k3.append j4
       . have := k2.1
         simp only [sumN, List.map_cons, List.sum_cons, List.flatten_cons, List.length_append, List.length_take] at j5 ⊢
         omega
     . cases hL
   . cases hL
theorem con_of (f : FuncId) (hf : ∀ (W : World) (us : Array Value), (callFunc f us).run Tryz.prog W = .ok (.enter f us) W)
   (hw : ∀ (base : Addr) (N cap : Nat) (rows : List CRow) (w : World), rows.length = N -> N <= 4294967296 -> (∀ (i : Nat) (r : CRow), rows[i]? = some r -> w.cell? (base.add i) = some (.slice r.a r.n r.c)) -> (∀ r ∈ rows, r.ok w) -> sumN rows <= 4294967296 -> Calls Tryz.prog f #[.slice (some base) N cap] w (ConcP rows w)) :
   ConOk Tryz.prog f concC := by
 intro args r hg V W us hi hr
 refine ⟨hf W us, ?_⟩
 show CallsIn Fence.wide 0 Tryz.prog f us W (PcPost V W r)
 refine callsIn_wide.2 ?_
 unfold concC at hg
 split at hg
 case h_2 => cases hg
 rename_i n cs tk
 split at hg
 case h_2 => cases hg
 rename_i L hL
 split at hg
 case isFalse => cases hg
 rename_i hcnd
 obtain ⟨hn0, hnc, hn, htl⟩ := hcnd
 cases hg
 have hus : ∃ v, us = #[v] /\ Rep V (.sl 1 n cs tk) v := by
   have h1 := hr.1
   match hu : us.toList, hr with
   | [v], hr => exact ⟨v, by rw [<- Array.toList_inj, hu], hr.head⟩
   | [], hr => have := hr.1; simp at this
   | _ :: _ :: _, hr => have := hr.1; simp at this
 obtain ⟨v, rfl, hv⟩ := hus
 obtain ⟨a, c, xs, e0, q1, q2, q3, q4, rep0⟩ := row_inv0 (k := 1) hi hv (.inr rfl) (by omega)
 rw [Nat.mul_one] at q1 rep0
 obtain ⟨rows, j1, j2, j3, j4, j5⟩ := rows_inv hi rep0 hL
 have hxl := rep0.1
 rw [List.length_take] at hxl
 cases a with
 | none => have := (q2 rfl).1; omega
 | some a =>
   subst e0
   refine (hw a n c rows W (by rw [j1, List.length_take]; omega) hn (fun i r hr => q3 a rfl i _ (j2 i r hr)) j3 (by omega)).mono ?_
   rintro e W' ⟨v, rfl, ho, hb, hnil⟩
   have hsn : sumN rows = L.flatten.length / 1 := by omega
   rw [hsn] at ho hnil
   by_cases hz : L.flatten = []
   . rw [if_pos hz]
     obtain rfl := hnil (by rw [hz]; rfl)
     refine ⟨V.imm, hb, fun p v hp => ?_, fun p v hp => hp, fun p v hp => .inl hp, .slnil 0⟩
     obtain ⟨h1, h2⟩ := hi p v hp
     exact ⟨by rw [hb.cell (World.block_lt_of_cell? W p h1)]; exact h1, h2⟩
   . rw [if_neg hz]
     have hnz : L.flatten.length / 1 ≠ 0 := fun e => hz (List.eq_nil_of_length_eq_zero (by omega))
     have hcells := fun {g} => ho.cells (g := g)
     rcases ho.2 with ⟨rfl, h0⟩ | ⟨g, cap, cur, rfl, hbg, hg, hncap, hcm, hcs, htk⟩
     . exact absurd h0 hnz
     have hcell := ho.cells (g := g) rfl
     have hy1 : ∀ u ∈ rows.flatMap (·.xs), u.oneCell' = true := by
       intro u hu
       obtain ⟨r, hr, hu⟩ := List.mem_flatMap.1 hu
       exact (j3 r hr).2.2.2 u hu
     generalize rows.flatMap (·.xs) = ys at *
     have hlt : ∀ p v, V.imm p = some v -> p.block < W.heap.size := fun p v hp => World.block_lt_of_cell? W p (hi p v hp).1
     refine ⟨fun p => if p.block = g /\ p.spot = none then ys[p.off]? else V.imm p, hb, fun p v hp => ?_, fun p v hp => ?_, fun p v hp => ?_, ?_⟩
     . simp only at hp
       split at hp
       . rename_i hpg
         obtain ⟨b, o, s⟩ := p
         simp only at hpg hp
         obtain ⟨rfl, rfl⟩ := hpg
         have := hcell _ _ hp
         rw [add_none', Nat.zero_add] at this
         exact ⟨this, hy1 _ (List.mem_of_getElem? hp)⟩
       . obtain ⟨h1, h2⟩ := hi p v hp
         exact ⟨by rw [hb.cell (hlt p v hp)]; exact h1, h2⟩
     . simp only
       rw [if_neg (by rintro ⟨h, _⟩; have := hlt p v hp; omega)]
       exact hp
     . simp only at hp
       split at hp
       . rename_i hpg; exact .inr (by omega)
       . exact .inl hp
     . have hyl := j4.1
       have hIV : ∀ (Lc : Nat -> Option Am.Loc), (∀ i l, V.loc i = some l -> Lc i = some l) -> ∀ {x : AV} {u : Value}, Rep V x u -> Rep ⟨fun p => if p.block = g /\ p.spot = none then ys[p.off]? else V.imm p, Lc⟩ x u := fun Lc hLc x u hr => by
         refine Rep.mono (V := V) (V' := ⟨fun p => if p.block = g /\ p.spot = none then ys[p.off]? else V.imm p, Lc⟩) ⟨fun p v hp => ?_, hLc⟩ hr
         show (if p.block = g /\ p.spot = none then ys[p.off]? else V.imm p) = some v
         rw [if_neg (by rintro ⟨h, _⟩; have := hlt p v hp; omega)]
         exact hp
       refine ⟨26, ys, g, cap, rfl, ho, fun off hoff => ?_, ?_, fun Lc g' hLc hg' => ?_⟩
       . simp only [and_self, if_true]
         exact List.getElem?_eq_none (by omega)
       . refine .sl (fun i => ys.getD i undef) (by omega) (by omega) hncap (fun i hi2 => ?_) (fun i x hx => ?_) (.inl rfl)
         . simp only [if_true, and_self, Nat.zero_add]
           rw [List.getD_eq_getElem?_getD, List.getElem?_eq_getElem (by omega)]; rfl
         . obtain ⟨u, hu, hr⟩ := j4.get hx
           rw [List.getD_eq_getElem?_getD, hu]
           exact hIV _ (fun _ _ h => h) hr
       . refine .slo (fun i => ys.getD i undef) (by omega) hncap hg' (fun i hi2 => ?_) (fun i x hx => ?_)
         . simp only [if_true, and_self]
           rw [List.getD_eq_getElem?_getD, List.getElem?_eq_getElem (by omega)]; rfl
         . obtain ⟨u, hu, hr⟩ := j4.get hx
           rw [List.getD_eq_getElem?_getD, hu]
           exact hIV _ hLc hr
theorem concOk : ConOk Tryz.prog 38 concC := con_of 38 (fun _ us => callFunc_run Tryz.func38 rfl rfl us) concat_walk
end Go.Proofs.YtobhofmicgmjfaaGreat
