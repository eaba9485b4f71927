/- TEXTS OF THE WALKS, put together: JM KJ J0 J1 J2 J3 J4 J5 J6 J7 J8 J9 J10 J11 J12 J13 J14 JR0 JR1 JR2 JR3 JR4 JR5 JR6 JR7 JR8 J15 JR9 JL0 JB LBe LSt LHo BG0 BG2. No condition but those stated. -/
import Derived.Test.YtobhofmicgmjfaaGreatQ1
import Derived.Test.YtobhofmicgmjfaaGreatP1
import Derived.Test.YtobhofmicgmjfaaGreatAmOpen
import Derived.Shelf.Spec.SlicesGrow
import Derived.Test.YtobhofmicgmjfaaGreatProg
import Derived.WalkKit
import Derived.BigCall
import Derived.Below
import Derived.Laws.OwnMore
import Derived.Test.YtobhofmicgmjfaaGreatAmTop
import Derived.Test.YtobhofmicgmjfaaGreatChecked
open Int (reduceEq)
open Nat (reduceEqDiff reduceAdd reduceMul reduceLT reduceLeDiff)
set_option linter.all false
set_option maxHeartbeats 4000000
set_option maxRecDepth 10000
namespace Go.Proofs.YtobhofmicgmjfaaGreat
open Go Go.Am Go.Rec Go.Ino
structure Redo where
 k : Int
 i : Int
 ws : List Int
 fr : Int
 to : Int
 fk : Int
 tk : Int
 rc : Int
 dir : Bool
deriving DecidableEq
def redA (r : Redo) : List AV := .int .i64 r.k :: .int .i64 r.i :: (encs u64A r.ws ++ [.int .i64 r.fr, .int .i64 r.to, .int .u64 r.fk, .int .u64 r.tk, .int .i64 r.rc, .bool r.dir])
def ws0 : List Int := List.replicate 16 0
def red0 : Redo := ⟨0, 0, ws0, 0, 0, 0, 0, 0, false⟩
def fileW (ws : List Int) : Bool := match ws with
 | w0 :: w1 :: w2 :: w3 :: r => decide ((ofI w0 w1 w2 w3 r).2 = 0 /\ (ofI w0 w1 w2 w3 r).1.kind = 1)
 | _ => false
def mayB (f : Frm) (r : Redo) : Prop :=
 (r.k = 1 /\ fileW r.ws = true /\ r.fr = 0 /\ r.to = 0 /\ r.fk = 0 /\ r.tk = 0 /\ r.rc = 0 /\ r.dir = false) ∨
 (r.k = 2 /\ r.ws = ws0 /\ (1 <= r.fr /\ r.fr <= f.i) /\ (1 <= r.to /\ r.to <= f.i) /\ (1 <= r.rc /\ r.rc <= f.r) /\ (r.fr ≠ r.to ∨ r.fk ≠ r.tk))
instance (f : Frm) (r : Redo) : Decidable (mayB f r) := inferInstanceAs (Decidable (_ ∨ _))
def mayR (f : Frm) (r : Redo) : Prop := (1 <= r.i /\ r.i <= f.i) /\ mayB f r
instance (f : Frm) (r : Redo) : Decidable (mayR f r) := inferInstanceAs (Decidable (_ /\ _))
structure RedT (r : Redo) : Prop where
 k0 : -9223372036854775808 <= r.k
 k1 : r.k < 9223372036854775808
 i0 : -9223372036854775808 <= r.i
 i1 : r.i < 9223372036854775808
 wl : r.ws.length = 16
 wu : ∀ w ∈ r.ws, U64 w
 f0 : -9223372036854775808 <= r.fr
 f1 : r.fr < 9223372036854775808
 t0 : -9223372036854775808 <= r.to
 t1 : r.to < 9223372036854775808
 fk : U64 r.fk
 tk : U64 r.tk
 r0 : -9223372036854775808 <= r.rc
 r1 : r.rc < 9223372036854775808
def dirI (b : Bool) : Int := if b then 1 else 0
def bodyR (r : Redo) : List Int := if r.k = 1 then r.i :: r.ws else [r.fr, r.fk, r.to, r.tk, r.rc, r.i, dirI r.dir]
def headR (r : Redo) : Int := if r.k = 1 then 4353 else 1794
def plainR (r : Redo) : List Int := headR r :: bodyR r
def wordsR (r : Redo) : List Int := sealM (plainR r)
def manyW (w : List Int) : Nat := if w.getD 0 0 = 4353 then 18 else 8
def decR (w : List Int) : Redo :=
 if w.getD 0 0 = 4353 then ⟨1, w.getD 1 0, (w.drop 2).take 16, 0, 0, 0, 0, 0, false⟩
 else ⟨2, w.getD 6 0, ws0, w.getD 1 0, w.getD 3 0, w.getD 2 0, w.getD 4 0, w.getD 5 0, decide (w.getD 7 0 = 1)⟩
def goodW (f : Frm) (w : List Int) : Prop :=
 (w.getD 0 0 = 4353 ∨ (w.getD 0 0 = 1794 /\ w.getD 7 0 <= 1)) /\ mayR f (decR w) /\ sealM (w.take (manyW w)) = w.take (manyW w + 1)
instance (f : Frm) (w : List Int) : Decidable (goodW f w) := inferInstanceAs (Decidable (_ /\ _))
def ofW (f : Frm) (w : List Int) : Redo × Bool × Int :=
 if w.length ≠ 64 then (red0, false, 310) else if w.getD 0 0 = 0 then (red0, false, 0) else if goodW f w then (decR w, true, 0) else (red0, false, 310)
theorem mayB_k {f : Frm} {r : Redo} (h : mayB f r) : r.k = 1 ∨ r.k = 2 := by rcases h with h | h; exact .inl h.1; exact .inr h.1
theorem plainR_len {r : Redo} (ht : RedT r) : (plainR r).length = if r.k = 1 then 18 else 8 := by
 unfold plainR bodyR
 split
 . simp [ht.wl]
 . rfl
theorem wordsR_len {r : Redo} (ht : RedT r) : (wordsR r).length = if r.k = 1 then 19 else 9 := by
 unfold wordsR sealM
 rw [List.length_append, plainR_len ht]
 split <;> rfl
theorem headR_ne (r : Redo) : headR r ≠ 0 := by unfold headR; split <;> decide
theorem plainR_u {r : Redo} (ht : RedT r) {f : Frm} (hf : okF f) (hm : mayR f r) : ∀ w ∈ plainR r, U64 w := by
 intro w hw
 obtain ⟨_, _, _, f2, _, _, f3, _⟩ := hf
 obtain ⟨⟨i1, i2⟩, hm⟩ := hm
 have hh : U64 (headR r) := by unfold headR; split <;> exact ⟨by decide, by decide⟩
 have hi : U64 r.i := ⟨by omega, by omega⟩
 rcases List.mem_cons.1 hw with rfl | hw
 . exact hh
 unfold bodyR at hw
 split at hw
 . rcases List.mem_cons.1 hw with rfl | hw
   . exact hi
   . exact ht.wu w hw
 . rename_i h1
   rcases hm with h | ⟨_, _, a1, a2, a3, _⟩
   . exact absurd h.1 h1
   simp only [List.mem_cons, List.not_mem_nil, or_false] at hw
   rcases hw with rfl | rfl | rfl | rfl | rfl | rfl | rfl
   . exact ⟨by omega, by omega⟩
   . exact ht.fk
   . exact ⟨by omega, by omega⟩
   . exact ht.tk
   . exact ⟨by omega, by omega⟩
   . exact hi
   . unfold dirI; split <;> exact ⟨by decide, by decide⟩
theorem redo_eq {r : Redo} (hk : r.k = 1 ∨ r.k = 2) {f : Frm} (hm : mayB f r) (ht : RedT r) (rest : List Int) : decR (plainR r ++ rest) = r := by
 obtain ⟨k, i, ws, fr, to, fk, tk, rc, dir⟩ := r
 have hl := ht.wl
 dsimp only at hl
 rcases hm with ⟨a, _, b1, b2, b3, b4, b5, b6⟩ | ⟨a, b, _⟩
 . dsimp only at a b1 b2 b3 b4 b5 b6
   subst a b1 b2 b3 b4 b5 b6
   have e : plainR ⟨1, i, ws, 0, 0, 0, 0, 0, false⟩ ++ rest = 4353 :: i :: (ws ++ rest) := rfl
   have t : (ws ++ rest).take 16 = ws := by rw [<- hl, List.take_left]
   rw [e]
   show Redo.mk 1 i ((ws ++ rest).take 16) 0 0 0 0 0 false = _
   rw [t]
 . dsimp only at a b
   subst a b
   cases dir <;> rfl
theorem sealM_take (l rest : List Int) : (sealM l ++ rest).take l.length = l /\ (sealM l ++ rest).take (l.length + 1) = sealM l := by
 unfold sealM
 constructor
 . rw [List.append_assoc, List.take_left]
 . have : l.length + 1 = (l ++ [moreM 0 (bytM l)]).length := by simp
   rw [this, List.take_left]
theorem dec_words {f : Frm} {r : Redo} (hm : mayR f r) (ht : RedT r) (rest : List Int) : decR (wordsR r ++ rest) = r := by
 have := redo_eq (mayB_k hm.2) hm.2 ht ([moreM 0 (bytM (plainR r))] ++ rest)
 rw [<- List.append_assoc] at this
 exact this
theorem good_words {f : Frm} {r : Redo} (hm : mayR f r) (ht : RedT r) (rest : List Int) : goodW f (wordsR r ++ rest) := by
 have h0 : (wordsR r ++ rest).getD 0 0 = headR r := rfl
 have hmw : manyW (wordsR r ++ rest) = (plainR r).length := by
   rw [plainR_len ht]
   unfold manyW
   rw [h0]
   unfold headR
   by_cases h : r.k = 1
   . rw [if_pos h, if_pos h]; rfl
   . rw [if_neg h, if_neg h]; rfl
 refine ⟨?_, by rw [dec_words hm ht]; exact hm, ?_⟩
 . rw [h0]
   unfold headR
   by_cases h : r.k = 1
   . rw [if_pos h]; exact .inl rfl
   . rw [if_neg h]
     refine .inr ⟨rfl, ?_⟩
     unfold wordsR sealM plainR bodyR
     rw [if_neg h]
     show dirI r.dir <= 1
     unfold dirI
     split <;> decide
 . rw [hmw]
   obtain ⟨e1, e2⟩ := sealM_take (plainR r) rest
   unfold wordsR
   rw [e1, e2]
theorem of_words {f : Frm} {r : Redo} (hm : mayR f r) (ht : RedT r) (rest : List Int) (hl : (wordsR r ++ rest).length = 64) : ofW f (wordsR r ++ rest) = (r, true, 0) := by
 have h0 : (wordsR r ++ rest).getD 0 0 = headR r := rfl
 unfold ofW
 rw [if_neg (fun h => h hl), h0, if_neg (headR_ne r), if_pos (good_words hm ht rest), dec_words hm ht]
end Go.Proofs.YtobhofmicgmjfaaGreat
namespace Go.Proofs.YtobhofmicgmjfaaGreat
open Go Go.Am Go.Rec
def lyA (f : Frm) (k0 k1 c d e g : Int) : List AV := frmA f ++ [.int .u64 k0, .int .u64 k1, .int .i64 c, .int .i64 d, .int .i64 e, .int .i64 g]
def okL (f : Frm) (c d e g : Int) : Prop := okF f /\ 9 = c /\ 9 + f.i / 4 = d /\ 9 + f.i / 4 + f.r / 4 = e /\ 9 + f.i / 4 + f.r / 4 + 1 = g
instance (f : Frm) (c d e g : Int) : Decidable (okL f c d e g) := inferInstanceAs (Decidable (_ /\ _))
theorem lof_no {f : Frm} (h : ¬ okF f) (k0 k1 : Int) (H : Heap) : pcx (cbL tab) 84 [.agg (frmA f), .agg [.int .u64 k0, .int .u64 k1]] H = some (.plain (.tup [.agg lyz, .int .i64 2])) := by
 refine pcx_N rfl (pc_wp (fi := c84) rfl rfl (by simp [c84]) (by decide) ?_)
 unfold c84
 have e1 : lend (.agg (frmA f)) = .agg (frmA f) := rfl
 have e2 : lend (.agg [.int .u64 k0, .int .u64 k1]) = .agg [.int .u64 k0, .int .u64 k1] := rfl
 rw [List.map_cons, List.map_cons, List.map_nil, e1, e2]
 have i1 := fun H => lin_px f.b 32 2048 H
 have i2 := fun H => lin_px f.i 4 256 H
 have i3 := fun H => lin_px f.r 4 1024 H
 have i4 := fun H => lin_px f.t 1 40 H
 unfold frmA lyz
 by_cases c1 : 32 <= f.b /\ f.b <= 2048
 case neg =>
   rw [decide_eq_false c1] at i1
   clear h
   simp (disch := omega) only [wk, tupled, ↓reduceIte, reduceEqDiff, reduceEq, reduceAdd, reduceCtorEq, i1, c1]
   rw [ret_scp_goto rfl]
   refine ret_again (by decide) (.inl rfl) ?_
   simp (disch := omega) only [wk, tupled, ↓reduceIte, reduceEqDiff, reduceEq, reduceAdd, reduceCtorEq, purify, unownT, lend, unown, AV.hf, hfL, Tk.hf]
 rw [decide_eq_true c1] at i1
 by_cases c4 : 1 <= f.t /\ f.t <= 40
 case neg =>
   rw [decide_eq_false c4] at i4
   clear h
   simp (disch := omega) only [wk, tupled, ↓reduceIte, reduceEqDiff, reduceEq, reduceAdd, reduceCtorEq, i1, i4]
   rw [ret_scp_goto rfl]
   refine ret_again (by decide) (.inl rfl) ?_
   simp (disch := omega) only [wk, tupled, ↓reduceIte, reduceEqDiff, reduceEq, reduceAdd, reduceCtorEq, purify, unownT, lend, unown, AV.hf, hfL, Tk.hf]
 rw [decide_eq_true c4] at i4
 by_cases c2 : 4 <= f.i /\ f.i <= 256
 case neg =>
   rw [decide_eq_false c2] at i2
   clear h
   simp (disch := omega) only [wk, tupled, ↓reduceIte, reduceEqDiff, reduceEq, reduceAdd, reduceCtorEq, i1, i4, i2]
   rw [ret_scp_goto rfl]
   refine ret_again (by decide) (.inl rfl) ?_
   simp (disch := omega) only [wk, tupled, ↓reduceIte, reduceEqDiff, reduceEq, reduceAdd, reduceCtorEq, purify, unownT, lend, unown, AV.hf, hfL, Tk.hf]
 rw [decide_eq_true c2] at i2
 by_cases c5 : f.i % 4 = 0
 case neg =>
   clear h
   simp (disch := omega) only [wk, tupled, ↓reduceIte, reduceEqDiff, reduceEq, reduceAdd, reduceCtorEq, i1, i4, i2, c5]
   rw [ret_scp_goto rfl]
   refine ret_again (by decide) (.inl rfl) ?_
   simp (disch := omega) only [wk, tupled, ↓reduceIte, reduceEqDiff, reduceEq, reduceAdd, reduceCtorEq, purify, unownT, lend, unown, AV.hf, hfL, Tk.hf]
 by_cases c3 : 4 <= f.r /\ f.r <= 1024
 case neg =>
   rw [decide_eq_false c3] at i3
   clear h
   simp (disch := omega) only [wk, tupled, ↓reduceIte, reduceEqDiff, reduceEq, reduceAdd, reduceCtorEq, i1, i4, i2, c5, i3]
   rw [ret_scp_goto rfl]
   refine ret_again (by decide) (.inl rfl) ?_
   simp (disch := omega) only [wk, tupled, ↓reduceIte, reduceEqDiff, reduceEq, reduceAdd, reduceCtorEq, purify, unownT, lend, unown, AV.hf, hfL, Tk.hf]
 rw [decide_eq_true c3] at i3
 by_cases c8 : f.r % 4 = 0
 case neg =>
   clear h
   simp (disch := omega) only [wk, tupled, ↓reduceIte, reduceEqDiff, reduceEq, reduceAdd, reduceCtorEq, i1, i4, i2, c5, i3, c8]
   rw [ret_scp_goto rfl]
   refine ret_again (by decide) (.inl rfl) ?_
   simp (disch := omega) only [wk, tupled, ↓reduceIte, reduceEqDiff, reduceEq, reduceAdd, reduceCtorEq, purify, unownT, lend, unown, AV.hf, hfL, Tk.hf]
 have c11 : f.b - (9 + f.i / 4 + f.r / 4 + 1) < 4 := by
   unfold okF at h
   omega
 have q1 : 0 <= f.i := by omega
 have q2 : 0 <= f.r := by omega
 clear h
 simp (disch := omega) only [wk, tupled, ↓reduceIte, reduceEqDiff, reduceEq, reduceAdd, reduceCtorEq, i1, i4, i2, c5, i3, c8, c11]
 rw [ret_scp_goto rfl]
 refine ret_again (by decide) (.inl rfl) ?_
 simp (disch := omega) only [wk, tupled, ↓reduceIte, reduceEqDiff, reduceEq, reduceAdd, reduceCtorEq, purify, unownT, lend, unown, AV.hf, hfL, Tk.hf]
theorem cellsI {ks : List Nat} {xs ys : List AV} {k : IntKind} {a b : Int} : cellsEq (0 :: ks) (.int k a :: xs) (.int k b :: ys) = if a = b then cellsEq ks xs ys else some false := by
 have : cellEq 0 (.int k a) (.int k b) = some (a == b) := by show (if k = k then some (a == b) else none) = _; rw [if_pos rfl]
 rw [cellsEq, this]
 by_cases h : a = b
 . rw [if_pos h, h, beq_self_eq_true]
 . rw [if_neg h, beq_eq_false_iff_ne.2 h]
theorem lay_eqn {xo yo : X} {a b c d e f g h i j g' h' i' j' : Int} : binV .eql (.struct [0, 0, 0, 0, 0, 0, 0, 0, 0, 0]) xo yo (.agg [.int .i64 a, .int .i64 b, .int .i64 c, .int .i64 d, .int .u64 e, .int .u64 f, .int .i64 g, .int .i64 h, .int .i64 i, .int .i64 j]) (.agg [.int .i64 a, .int .i64 b, .int .i64 c, .int .i64 d, .int .u64 e, .int .u64 f, .int .i64 g', .int .i64 h', .int .i64 i', .int .i64 j']) = some (.bool (decide (g = g' /\ h = h' /\ i = i' /\ j = j'))) := by
 show (cellsEq _ _ _).map _ = _
 simp only [cellsI, if_true]
 by_cases h1 : g = g'
 . by_cases h2 : h = h'
   . by_cases h3 : i = i'
     . by_cases h4 : j = j'
       . simp only [h1, h2, h3, h4, if_true, and_self, decide_true]; rfl
       . simp only [h1, h2, h3, h4, if_true, if_false, and_false, decide_false]; rfl
     . simp only [h1, h2, h3, if_true, if_false, and_false, false_and, decide_false]; rfl
   . simp only [h1, h2, if_true, if_false, and_false, false_and, decide_false]; rfl
 . simp only [h1, if_false, false_and, decide_false]; rfl
theorem lright_all (f : Frm) (k0 k1 c d e g : Int) (H : Heap) : pcx (cbL tab) 66 [.agg (lyA f k0 k1 c d e g)] H = some (.plain (.bool (decide (okL f c d e g)))) := by
 refine pcx_N rfl (pc_wp (fi := c66) rfl rfl (by simp [c66]) (by decide) ?_)
 unfold c66
 have e1 : lend (.agg (lyA f k0 k1 c d e g)) = .agg (lyA f k0 k1 c d e g) := rfl
 rw [List.map_cons, List.map_nil, e1]
 unfold okL lyA
 by_cases h : okF f
 . have lo := fun H => lof_px h k0 k1 H
   simp only [h, true_and]
   clear h
   unfold layA frmA at lo
   unfold frmA
   simp only [List.cons_append, List.nil_append] at lo ⊢
   simp (disch := omega) only [wk, tupled, ↓reduceIte, reduceEqDiff, reduceEq, reduceAdd, reduceCtorEq, lo, lay_eqn, purify, unownT, lend, unown, AV.hf, hfL, Tk.hf]
 . have lo := fun H => lof_no h k0 k1 H
   simp only [h, false_and, decide_false]
   clear h
   unfold frmA lyz at lo
   unfold frmA
   simp only [List.cons_append, List.nil_append] at lo ⊢
   simp (disch := omega) only [wk, tupled, ↓reduceIte, reduceEqDiff, reduceEq, reduceAdd, reduceCtorEq, lo, purify, unownT, lend, unown, AV.hf, hfL, Tk.hf]
theorem super_no {f : Frm} {c d e g : Int} (h : ¬ okL f c d e g) (k0 k1 : Int) (H : Heap) : pcx (cbL tab) 48 [.agg (lyA f k0 k1 c d e g)] H = some (.plain (.tup [.sl 0 0 [] .z, .int .i64 2])) := by
 have hr := fun H => lright_all f k0 k1 c d e g H
 rw [decide_eq_false h] at hr
 clear h
 refine pcx_N rfl (pc_wp (fi := c48) rfl rfl (by simp [c48]) (by decide) ?_)
 unfold c48
 have e1 : lend (.agg (lyA f k0 k1 c d e g)) = .agg (lyA f k0 k1 c d e g) := rfl
 rw [List.map_cons, List.map_nil, e1]
 unfold lyA frmA at hr ⊢
 simp only [List.cons_append, List.nil_append] at hr ⊢
 simp (disch := omega) only [wk, tupled, ↓reduceIte, reduceEqDiff, reduceEq, reduceAdd, reduceCtorEq, hr, purify, unownT, lend, unown, AV.hf, hfL, Tk.hf]
theorem ly_ok {f : Frm} {c d e g : Int} (h : okL f c d e g) (k0 k1 : Int) : lyA f k0 k1 c d e g = layA f k0 k1 := by
 obtain ⟨_, rfl, rfl, rfl, rfl⟩ := h
 rfl
end Go.Proofs.YtobhofmicgmjfaaGreat
namespace Go.Proofs.YtobhofmicgmjfaaGreat
open Go Go.Am Go.Rec Go.Ino
def panJ (e : Int) : PR := .pan [(.iface 35 (.int .i64 e), false)]
theorem jmust_t (e : Int) (H : Heap) : pcx (cbL tab) 28 [.bool true, .int .i64 e] H = some (.plain (.tup [])) := by
 refine pcx_N rfl (pc_wp (fi := c28) rfl rfl (by simp [c28]) (by decide) ?_)
 unfold c28
 have lb : lend (.bool true) = .bool true := rfl
 rw [List.map_cons, List.map_cons, List.map_nil, lb, lend_int]
 simp (disch := omega) only [wk, tupled, ↓reduceIte, reduceEqDiff, reduceEq, reduceAdd, reduceCtorEq, purify, unownT, lend, unown, AV.hf, hfL]
theorem jmust_f (e : Int) (H : Heap) : pcx (cbL tab) 28 [.bool false, .int .i64 e] H = some (panJ e) := by
 refine pcx_N rfl (pc_wp (fi := c28) rfl rfl (by simp [c28]) (by decide) ?_)
 unfold c28 panJ
 have lb : lend (.bool false) = .bool false := rfl
 rw [List.map_cons, List.map_cons, List.map_nil, lb, lend_int]
 simp (disch := omega) only [wk, tupled, ↓reduceIte, reduceEqDiff, reduceEq, reduceAdd, reduceCtorEq, purify, unownT, lend, unown, AV.hf, hfL]
theorem jcaught_ret (a : Nat) (f : FuncId) (caps : List AV) (H : Heap) : leaveA tab (cbL tab) [.call 25 [.ptr a 0, .fn f caps]] .returning H = some (.returning, H) := by
 rfl
theorem jcaught_pan (a : Nat) (f : FuncId) (caps : List AV) (H H1 : Heap) (e : Int) (y v : AV) (h : enterA (cbL tab) f caps H = some (.ret v, H1)) (hy : H1[a]? = some (.cells [y])) :
   leaveA tab (cbL tab) [.call 25 [.ptr a 0, .fn f caps]] (.panicking [(.iface 35 (.int .i64 e), false)]) H = some (.returning, H1.set a (.cells [.int .i64 e])) := by
 have ht : tab 25 = some c25 := rfl
 simp [leaveA, ht, bodyD, c25, acodeD, aregionD, hasRecov, acode, aregion, aval, aact, putD, X.ev, fr0, wantedA, binV, eqV, unV, h, hy, AV.flat, allOne, AV.one, resA, settleA, isNili]
theorem jin_px (n lo hi : Int) (H : Heap) : pcx (cbL tab) 54 [.int .i64 n, .int .i64 lo, .int .i64 hi] H = some (.plain (.bool (decide (lo <= n /\ n <= hi)))) := by
 refine pcx_N rfl (pc_wp (fi := c54) rfl rfl (by simp [c54]) (by decide) ?_)
 unfold c54
 rw [List.map_cons, List.map_cons, List.map_cons, List.map_nil, lend_int, lend_int, lend_int]
 by_cases h1 : lo <= n <;> by_cases h2 : n <= hi <;> simp (disch := omega) only [wk, tupled, ↓reduceIte, reduceEqDiff, reduceEq, reduceAdd, reduceCtorEq, h1, h2, purify, unownT, lend, unown, AV.hf, and_false, false_and]
theorem jlaid_ok {f : Frm} (h : okF f) {k0 k1 : Int} (h0 : U64 k0) (h1 : U64 k1) (H : Heap) : pcx (cbL tab) 27 [.agg (layA f k0 k1)] H = some (.plain (.tup [])) := by
 obtain ⟨v, sp⟩ := super_px h h0 h1
 clear h
 refine pcx_N rfl (pc_wp (fi := c27) rfl rfl (by simp [c27]) (by decide) ?_)
 unfold c27
 have e1 : lend (.agg (layA f k0 k1)) = .agg (layA f k0 k1) := rfl
 rw [List.map_cons, List.map_nil, e1]
 have mt := fun H => jmust_t 2 H
 unfold layA frmA at sp ⊢
 simp only [List.cons_append, List.nil_append] at sp ⊢
 simp (disch := omega) only [wk, tupled, ↓reduceIte, reduceEqDiff, reduceEq, reduceAdd, reduceCtorEq, sp, mt, purify, unownT, lend, unown, AV.hf, hfL, Tk.hf]
theorem jlaid_no {f : Frm} {c d e g : Int} (h : ¬ okL f c d e g) (k0 k1 : Int) (H : Heap) : pcx (cbL tab) 27 [.agg (lyA f k0 k1 c d e g)] H = some (panJ 2) := by
 have sp := fun H => super_no h k0 k1 H
 clear h
 refine pcx_N rfl (pc_wp (fi := c27) rfl rfl (by simp [c27]) (by decide) ?_)
 unfold c27
 have e1 : lend (.agg (lyA f k0 k1 c d e g)) = .agg (lyA f k0 k1 c d e g) := rfl
 rw [List.map_cons, List.map_nil, e1]
 have mf := fun H => jmust_f 2 H
 have pj : ∀ H : Heap, purify (some (.pan [(.iface 35 (.int .i64 2), false)], H)) = some (panJ 2) := fun H => rfl
 unfold panJ at mf
 unfold lyA frmA at sp ⊢
 simp only [List.cons_append, List.nil_append] at sp ⊢
 simp (disch := omega) only [wk, tupled, ↓reduceIte, reduceEqDiff, reduceEq, reduceAdd, reduceCtorEq, sp, mf, pj]
def kd1 : AV := .agg [.int .i64 17, .fn 49 [], .fn 51 [], .fn 52 []]
def kd2 : AV := .agg [.int .i64 7, .fn 53 [], .fn 55 [], .fn 56 []]
def jkE : List (AV × AV) := [(.int .i64 1, kd1), (.int .i64 2, kd2)]
theorem jkinds_px (H : Heap) : pcx (cbL tab) 29 [] H = some (.fmap jkE) := by
 refine pcx_N rfl (pc_wp (fi := c29) rfl rfl (by simp [c29]) (by decide) ?_)
 unfold c29 jkE kd1 kd2
 have b21 : ((2 : Int) == 1) = false := rfl
 simp (disch := omega) only [wk, tupled, ↓reduceIte, reduceEqDiff, reduceEq, reduceAdd, reduceCtorEq, findA, cellEq, b21, purify, hfL, AV.hf]
theorem jfind1 : findA 0 (.int .i64 1) jkE 0 = some (some (0, kd1)) := rfl
theorem jfind2 : findA 0 (.int .i64 2) jkE 0 = some (some (1, kd2)) := rfl
theorem jfind_no {k : Int} (h1 : k ≠ 1) (h2 : k ≠ 2) : findA 0 (.int .i64 k) jkE 0 = some none := by
 have b1 : (k == 1) = false := by simp [h1]
 have b2 : (k == 2) = false := by simp [h2]
 simp [findA, jkE, cellEq, b1, b2]
theorem cellsU {ks : List Nat} {xs ys : List AV} : ∀ (a b : List Int), a.length = b.length -> cellsEq (List.replicate a.length 0 ++ ks) (encs u64A a ++ xs) (encs u64A b ++ ys) = if a = b then cellsEq ks xs ys else some false
 | [], [], _ => rfl
 | [], _ :: _, h => by simp at h
 | _ :: _, [], h => by simp at h
 | x :: a, y :: b, h => by
   have ih := cellsU (ks := ks) (xs := xs) (ys := ys) a b (by simpa using h)
   rw [List.length_cons, List.replicate_succ]
   show cellsEq (0 :: (List.replicate a.length 0 ++ ks)) (.int .u64 x :: (encs u64A a ++ xs)) (.int .u64 y :: (encs u64A b ++ ys)) = _
   rw [cellsI, ih]
   by_cases hxy : x = y
   . simp [hxy]
   . simp [hxy]
def redK : List Nat := [0, 0, 0, 0, 0, 0, 0, 0, 0, 0, 0, 0, 0, 0, 0, 0, 0, 0, 0, 0, 0, 0, 0, 1]
theorem red_eqc {a b : Redo} (ha : a.ws.length = 16) (hb : b.ws.length = 16) : cellsEq redK (redA a) (redA b) = some (decide (a = b)) := by
 obtain ⟨k, i, ws, fr, to, fk, tk, rc, dir⟩ := a
 obtain ⟨k', i', ws', fr', to', fk', tk', rc', dir'⟩ := b
 dsimp only at ha hb
 have e : redK = 0 :: 0 :: (List.replicate ws.length 0 ++ [0, 0, 0, 0, 0, 1]) := by rw [ha]; rfl
 have eb : ∀ x y : Bool, cellsEq [1] [.bool x] [.bool y] = some (x == y) := fun x y => by cases x <;> cases y <;> rfl
 unfold redA
 rw [e, cellsI, cellsI, cellsU _ _ (by rw [ha, hb]), cellsI, cellsI, cellsI, cellsI, cellsI, eb]
 simp only [Redo.mk.injEq]
 by_cases h1 : k = k' <;> by_cases h2 : i = i' <;> by_cases h3 : ws = ws' <;> by_cases h4 : fr = fr' <;> by_cases h5 : to = to' <;> by_cases h6 : fk = fk' <;> by_cases h7 : tk = tk' <;> by_cases h8 : rc = rc' <;> simp [h1, h2, h3, h4, h5, h6, h7, h8] <;> cases dir <;> cases dir' <;> rfl
theorem red_eqv {xo yo : X} {a b : Redo} (ha : a.ws.length = 16) (hb : b.ws.length = 16) : binV .eql (.struct redK) xo yo (.agg (redA a)) (.agg (redA b)) = some (.bool (decide (a = b))) := by
 show (cellsEq _ _ _).map _ = _
 rw [red_eqc ha hb]
 rfl
def undA (f : Frm) (r : Redo) : AV := .agg (redA r ++ frmA f)
theorem hf_redA (r : Redo) : hfL (redA r) = true := by
 unfold redA
 simp [hfL, hfL_append, hf_u64A, AV.hf]
theorem lend_redA (r : Redo) : (redA r).map unown = redA r := by
 unfold redA
 rw [List.map_cons, List.map_cons, List.map_append, unown_encsU]
 rfl
theorem lend_und (f : Frm) (r : Redo) : lend (undA f r) = undA f r := by
 show AV.agg ((redA r ++ frmA f).map unown) = _
 rw [List.map_append, lend_redA]
 rfl
theorem hf_und (f : Frm) (r : Redo) : (undA f r).hf = true := by
 show hfL (redA r ++ frmA f) = true
 rw [hfL_append, hf_redA]
 rfl
theorem sixteen {l : List Int} (h : l.length = 16) : ∃ w0 w1 w2 w3 w4 w5 w6 w7 w8 w9 w10 w11 w12 w13 w14 w15, l = [w0, w1, w2, w3, w4, w5, w6, w7, w8, w9, w10, w11, w12, w13, w14, w15] := by
 match l, h with
 | [w0, w1, w2, w3, w4, w5, w6, w7, w8, w9, w10, w11, w12, w13, w14, w15], _ => exact ⟨_, _, _, _, _, _, _, _, _, _, _, _, _, _, _, _, rfl⟩
def bareR (r : Redo) : Redo := ⟨r.k, r.i, r.ws, 0, 0, 0, 0, 0, false⟩
theorem ofIV_eq (n : Ino) (e : Int) : ofIV n e = .tup [inoA n (mapV n.map), .int .i64 e] := rfl
theorem jmay1_px (f : Frm) (r : Redo) (ht : RedT r) (H : Heap) : pcx (cbL tab) 49 [undA f r] H = some (.plain (.bool (decide (fileW r.ws = true /\ r = bareR r)))) := by
 have hq := fun xo yo => red_eqv (xo := xo) (yo := yo) (a := r) (b := bareR r) ht.wl ht.wl
 obtain ⟨w0, w1, w2, w3, w4, w5, w6, w7, w8, w9, w10, w11, w12, w13, w14, w15, hw⟩ := sixteen ht.wl
 have hu := ht.wu
 rw [hw] at hu
 have wok : WOk w0 w1 w2 w3 [w4, w5, w6, w7, w8, w9, w10, w11, w12, w13, w14, w15] [] :=
   ⟨rfl, hu _ (by simp), hu _ (by simp), hu _ (by simp), hu _ (by simp), fun x hx => hu x (List.mem_cons_of_mem _ (List.mem_cons_of_mem _ (List.mem_cons_of_mem _ (List.mem_cons_of_mem _ hx)))), rfl⟩
 refine pcx_N rfl (pc_wp (fi := c49) rfl ?_ (by simp [c49]) (by decide) ?_)
 . simp only [pcOn, List.map_cons, List.map_nil, hfL, hf_lend_sl, hf_lend_int, hf_lend_bool, hf_lend_str, hfL_append, Bool.and_self, Bool.and_true, Bool.true_and, c49, lend_und, hf_und]
 rw [List.map_cons, List.map_nil, lend_und]
 have fw : fileW r.ws = decide ((ofI w0 w1 w2 w3 [w4, w5, w6, w7, w8, w9, w10, w11, w12, w13, w14, w15]).2 = 0 /\ (ofI w0 w1 w2 w3 [w4, w5, w6, w7, w8, w9, w10, w11, w12, w13, w14, w15]).1.kind = 1) := by rw [hw]; rfl
 have op := fun tk H => xofI_px w0 w1 w2 w3 [w4, w5, w6, w7, w8, w9, w10, w11, w12, w13, w14, w15] _ tk H wok
 generalize ofI w0 w1 w2 w3 [w4, w5, w6, w7, w8, w9, w10, w11, w12, w13, w14, w15] = O at fw op
 obtain ⟨n, e⟩ := O
 dsimp only at fw op
 rw [ofIV_eq] at op
 have m1 := (MapR.of n.map).one.1
 have m2 := (MapR.of n.map).one.2
 generalize mapV n.map = M at op m1 m2
 rw [fw]
 unfold wlit at op
 unfold c49 undA redA frmA
 have r0 : r = ⟨r.k, r.i, r.ws, r.fr, r.to, r.fk, r.tk, r.rc, r.dir⟩ := rfl
 unfold redA bareR redK at hq
 rw [hw] at hq ⊢
 simp only [encs_cons, encs_nil, u64A, List.cons_append, List.nil_append, frmA] at op hq ⊢
 unfold inoA at op
 by_cases h1 : e = 0
 . by_cases h2 : n.kind = 1
   . simp (disch := omega) only [wk, tupled, ↓reduceIte, reduceEqDiff, reduceEq, reduceAdd, reduceCtorEq, op, m1, m2, h1, h2, hq, purify, unownT, lend, unown, AV.hf, hfL, Tk.hf]
     unfold bareR
     rw [hw]
   . simp (disch := omega) only [wk, tupled, ↓reduceIte, reduceEqDiff, reduceEq, reduceAdd, reduceCtorEq, op, m1, m2, h1, h2, hq, purify, unownT, lend, unown, AV.hf, hfL, Tk.hf]
     simp
 . simp (disch := omega) only [wk, tupled, ↓reduceIte, reduceEqDiff, reduceEq, reduceAdd, reduceCtorEq, op, m1, m2, h1, hq, purify, unownT, lend, unown, AV.hf, hfL, Tk.hf]
   simp
theorem jmay2_px (f : Frm) (r : Redo) (ht : RedT r) (H : Heap) : pcx (cbL tab) 53 [undA f r] H = some (.plain (.bool (decide (r.ws = ws0 /\ (1 <= r.fr /\ r.fr <= f.i) /\ (1 <= r.to /\ r.to <= f.i) /\ (1 <= r.rc /\ r.rc <= f.r) /\ (r.fr ≠ r.to ∨ r.fk ≠ r.tk))))) := by
 have hz := ceq_u r.ws ws0 (by rw [ht.wl]; rfl)
 obtain ⟨w0, w1, w2, w3, w4, w5, w6, w7, w8, w9, w10, w11, w12, w13, w14, w15, hw⟩ := sixteen ht.wl
 have hq : ∀ xo yo, binV .eql (.struct [0, 0, 0, 0, 0, 0, 0, 0, 0, 0, 0, 0, 0, 0, 0, 0]) xo yo (.agg [.int .u64 w0, .int .u64 w1, .int .u64 w2, .int .u64 w3, .int .u64 w4, .int .u64 w5, .int .u64 w6, .int .u64 w7, .int .u64 w8, .int .u64 w9, .int .u64 w10, .int .u64 w11, .int .u64 w12, .int .u64 w13, .int .u64 w14, .int .u64 w15])
     (.agg [.int .u64 0, .int .u64 0, .int .u64 0, .int .u64 0, .int .u64 0, .int .u64 0, .int .u64 0, .int .u64 0, .int .u64 0, .int .u64 0, .int .u64 0, .int .u64 0, .int .u64 0, .int .u64 0, .int .u64 0, .int .u64 0]) = some (.bool (decide (r.ws = ws0))) := by
   intro xo yo
   rw [hw] at hz ⊢
   show (cellsEq _ _ _).map _ = _
   have hz' : cellsEq [0, 0, 0, 0, 0, 0, 0, 0, 0, 0, 0, 0, 0, 0, 0, 0] [.int .u64 w0, .int .u64 w1, .int .u64 w2, .int .u64 w3, .int .u64 w4, .int .u64 w5, .int .u64 w6, .int .u64 w7, .int .u64 w8, .int .u64 w9, .int .u64 w10, .int .u64 w11, .int .u64 w12, .int .u64 w13, .int .u64 w14, .int .u64 w15]
     [.int .u64 0, .int .u64 0, .int .u64 0, .int .u64 0, .int .u64 0, .int .u64 0, .int .u64 0, .int .u64 0, .int .u64 0, .int .u64 0, .int .u64 0, .int .u64 0, .int .u64 0, .int .u64 0, .int .u64 0, .int .u64 0] = _ := hz
   rw [hz']
   rfl
 refine pcx_N rfl (pc_wp (fi := c53) rfl ?_ (by simp [c53]) (by decide) ?_)
 . simp only [pcOn, List.map_cons, List.map_nil, hfL, hf_lend_sl, hf_lend_int, hf_lend_bool, hf_lend_str, hfL_append, Bool.and_self, Bool.and_true, Bool.true_and, c53, lend_und, hf_und]
 rw [List.map_cons, List.map_nil, lend_und]
 have i1 := fun H => jin_px r.fr 1 f.i H
 have i2 := fun H => jin_px r.to 1 f.i H
 have i3 := fun H => jin_px r.rc 1 f.r H
 unfold c53 undA redA frmA
 have hw2 : encs u64A r.ws = [.int .u64 w0, .int .u64 w1, .int .u64 w2, .int .u64 w3, .int .u64 w4, .int .u64 w5, .int .u64 w6, .int .u64 w7, .int .u64 w8, .int .u64 w9, .int .u64 w10, .int .u64 w11, .int .u64 w12, .int .u64 w13, .int .u64 w14, .int .u64 w15] := by rw [hw]; rfl
 have rp : List.replicate 16 (AV.int .u64 0) = [.int .u64 0, .int .u64 0, .int .u64 0, .int .u64 0, .int .u64 0, .int .u64 0, .int .u64 0, .int .u64 0, .int .u64 0, .int .u64 0, .int .u64 0, .int .u64 0, .int .u64 0, .int .u64 0, .int .u64 0, .int .u64 0] := rfl
 rw [hw2, rp]
 simp only [List.cons_append, List.nil_append]
 clear hz hw hw2 rp
 by_cases ca : r.ws = ws0
 case neg =>
   rw [decide_eq_false ca] at hq
   have e : decide (r.ws = ws0 /\ (1 <= r.fr /\ r.fr <= f.i) /\ (1 <= r.to /\ r.to <= f.i) /\ (1 <= r.rc /\ r.rc <= f.r) /\ (r.fr ≠ r.to ∨ r.fk ≠ r.tk)) = false := decide_eq_false (fun h => ca h.1)
   rw [e]
   clear e ca
   simp (disch := omega) only [wk, tupled, ↓reduceIte, reduceEqDiff, reduceEq, reduceAdd, reduceCtorEq, hq, runG_un, purify, unownT, lend, unown, AV.hf, hfL, Tk.hf]
 rw [decide_eq_true ca] at hq
 by_cases cb : 1 <= r.fr /\ r.fr <= f.i
 case neg =>
   rw [decide_eq_false cb] at i1
   have e : decide (r.ws = ws0 /\ (1 <= r.fr /\ r.fr <= f.i) /\ (1 <= r.to /\ r.to <= f.i) /\ (1 <= r.rc /\ r.rc <= f.r) /\ (r.fr ≠ r.to ∨ r.fk ≠ r.tk)) = false := decide_eq_false (fun h => cb h.2.1)
   rw [e]
   clear e cb
   simp (disch := omega) only [wk, tupled, ↓reduceIte, reduceEqDiff, reduceEq, reduceAdd, reduceCtorEq, hq, runG_un, i1, purify, unownT, lend, unown, AV.hf, hfL, Tk.hf]
 rw [decide_eq_true cb] at i1
 by_cases cc : 1 <= r.to /\ r.to <= f.i
 case neg =>
   rw [decide_eq_false cc] at i2
   have e : decide (r.ws = ws0 /\ (1 <= r.fr /\ r.fr <= f.i) /\ (1 <= r.to /\ r.to <= f.i) /\ (1 <= r.rc /\ r.rc <= f.r) /\ (r.fr ≠ r.to ∨ r.fk ≠ r.tk)) = false := decide_eq_false (fun h => cc h.2.2.1)
   rw [e]
   clear e cc
   simp (disch := omega) only [wk, tupled, ↓reduceIte, reduceEqDiff, reduceEq, reduceAdd, reduceCtorEq, hq, runG_un, i1, i2, purify, unownT, lend, unown, AV.hf, hfL, Tk.hf]
 rw [decide_eq_true cc] at i2
 by_cases cd : 1 <= r.rc /\ r.rc <= f.r
 case neg =>
   rw [decide_eq_false cd] at i3
   have e : decide (r.ws = ws0 /\ (1 <= r.fr /\ r.fr <= f.i) /\ (1 <= r.to /\ r.to <= f.i) /\ (1 <= r.rc /\ r.rc <= f.r) /\ (r.fr ≠ r.to ∨ r.fk ≠ r.tk)) = false := decide_eq_false (fun h => cd h.2.2.2.1)
   rw [e]
   clear e cd
   simp (disch := omega) only [wk, tupled, ↓reduceIte, reduceEqDiff, reduceEq, reduceAdd, reduceCtorEq, hq, runG_un, i1, i2, i3, purify, unownT, lend, unown, AV.hf, hfL, Tk.hf]
 rw [decide_eq_true cd] at i3
 have e : decide (r.ws = ws0 /\ (1 <= r.fr /\ r.fr <= f.i) /\ (1 <= r.to /\ r.to <= f.i) /\ (1 <= r.rc /\ r.rc <= f.r) /\ (r.fr ≠ r.to ∨ r.fk ≠ r.tk)) = decide (r.fr ≠ r.to ∨ r.fk ≠ r.tk) := by simp only [ca, cb, cc, cd, true_and, and_self]
 rw [e]
 clear e ca cb cc cd
 by_cases g1 : r.fr = r.to
 . by_cases g2 : r.fk = r.tk
   . have e : decide (r.fr ≠ r.to ∨ r.fk ≠ r.tk) = false := decide_eq_false (by simp [g1, g2])
     rw [e]
     simp (disch := omega) only [wk, tupled, ↓reduceIte, reduceEqDiff, reduceEq, reduceAdd, reduceCtorEq, hq, runG_un, i1, i2, i3, g1, g2, purify, unownT, lend, unown, AV.hf, hfL, Tk.hf]
   . have e : decide (r.fr ≠ r.to ∨ r.fk ≠ r.tk) = true := decide_eq_true (.inr g2)
     rw [e]
     simp (disch := omega) only [wk, tupled, ↓reduceIte, reduceEqDiff, reduceEq, reduceAdd, reduceCtorEq, hq, runG_un, i1, i2, i3, g1, g2, purify, unownT, lend, unown, AV.hf, hfL, Tk.hf]
 . have e : decide (r.fr ≠ r.to ∨ r.fk ≠ r.tk) = true := decide_eq_true (.inl g1)
   rw [e]
   simp (disch := omega) only [wk, tupled, ↓reduceIte, reduceEqDiff, reduceEq, reduceAdd, reduceCtorEq, hq, runG_un, i1, i2, i3, g1, purify, unownT, lend, unown, AV.hf, hfL, Tk.hf]
theorem app_e (a b : List Int) (ha : a.length <= 1000) (hb : b.length <= 1000) (hb0 : b ≠ []) (tk : Tk) (H : Heap) :
   appV 1 8 (.sl 1 a.length (encs u64A a) .e) (.sl 1 b.length (encs u64A b) tk) H = some (.val (.sl 1 (a ++ b).length (encs u64A (a ++ b)) (.own H.length)), H ++ [.tok 1]) := by
 have h0 : ¬ b.length = 0 := fun h => hb0 (List.eq_nil_of_length_eq_zero h)
 have t : (encs u64A b).take (b.length * 1) = encs u64A b := List.take_of_length_le (by rw [lenU]; omega)
 have c1 : (a.length + b.length) * 8 <= 70368744177664 := by omega
 have c2 : a.length + b.length <= 70368744177664 := by omega
 have c3 : b.length * 1 <= (encs u64A b).length := by rw [lenU]; omega
 have c4 : (encs u64A a).length = a.length * 1 := by rw [lenU]; omega
 simp only [appV, c1, c2, c3, c4, t, one_u64A, h0, Nat.one_pos, and_self, if_true, if_false, encs_append, List.length_append]
theorem own_tok (H : Heap) (l : List Int) (h : l ≠ []) : Own (H ++ [AObj.tok 1]) 1 (.sl 1 l.length (encs u64A l) (.own H.length)) l.length (encs u64A l) :=
 .inr ⟨fun e => h (List.eq_nil_of_length_eq_zero e), _, rfl, by simp⟩
theorem row28 (a0 a1 a2 a3 a4 a5 a6 a7 a8 a9 a10 a11 a12 a13 a14 a15 a16 a17 a18 a19 a20 a21 a22 a23 a24 a25 a26 a27 : AV) : rowOf [AObj.cells [a0, a1, a2, a3, a4, a5, a6, a7, a8, a9, a10, a11, a12, a13, a14, a15, a16, a17, a18, a19, a20, a21, a22, a23, a24, a25, a26, a27]] (.msl 1 0 2 16) = .sl 1 16 [a2, a3, a4, a5, a6, a7, a8, a9, a10, a11, a12, a13, a14, a15, a16, a17] .ro := rfl
theorem jlay1_px (f : Frm) (r : Redo) (ht : RedT r) (h1 : 1 <= r.i) (h2 : r.i <= 256) (H : Heap) : pcx (cbL tab) 51 [undA f r] H = some (prRow 1 u64A (r.i :: r.ws)) := by
 have ap := fun tk H => app_e [r.i] r.ws (by simp) (by have := ht.wl; omega) (by intro h; have := ht.wl; rw [h] at this; simp at this) tk H
 have lw := ht.wl
 have el : ([r.i] ++ r.ws).length = 17 := by simp [lw]
 have ol := fun H => own_tok H (r.i :: r.ws) (by simp)
 obtain ⟨w0, w1, w2, w3, w4, w5, w6, w7, w8, w9, w10, w11, w12, w13, w14, w15, hw⟩ := sixteen ht.wl
 refine pcx_N rfl (pc_wp (fi := c51) rfl ?_ (by simp [c51]) (by decide) ?_)
 . simp only [pcOn, List.map_cons, List.map_nil, hfL, hf_lend_sl, hf_lend_int, hf_lend_bool, hf_lend_str, hfL_append, Bool.and_self, Bool.and_true, Bool.true_and, c51, lend_und, hf_und]
 rw [List.map_cons, List.map_nil, lend_und]
 have v1 : IntKind.u64.wrap r.i = r.i := wrap_u64 (by omega) (by omega)
 have hw2 : encs u64A r.ws = [.int .u64 w0, .int .u64 w1, .int .u64 w2, .int .u64 w3, .int .u64 w4, .int .u64 w5, .int .u64 w6, .int .u64 w7, .int .u64 w8, .int .u64 w9, .int .u64 w10, .int .u64 w11, .int .u64 w12, .int .u64 w13, .int .u64 w14, .int .u64 w15] := by rw [hw]; rfl
 have pr : ∀ H, purify (some (.ret (.sl 1 17 (encs u64A ([r.i] ++ r.ws)) (.own H.length)), H ++ [AObj.tok 1])) = some (prRow 1 u64A (r.i :: r.ws)) := by
   intro H
   have := ol H
   have e17 : (r.i :: r.ws).length = 17 := by simp [lw]
   rw [e17] at this
   exact purify_row (fun _ => rfl) (l := r.i :: r.ws) (by rw [e17]; exact this) (fun e => by cases e)
 rw [lw, el, hw2] at ap
 unfold c51 undA redA frmA
 rw [hw2]
 have es : encs u64A [r.i] = [.int .u64 r.i] := rfl
 rw [es] at ap
 simp only [List.cons_append, List.nil_append, List.length_cons, List.length_nil, Nat.zero_add] at ap ⊢
 simp (disch := omega) only [wk, tupled, ↓reduceIte, reduceEqDiff, reduceEq, reduceAdd, reduceCtorEq, v1, row28, ap]
 exact pr [_]
theorem jlay2_px (f : Frm) (r : Redo) (h1 : 1 <= r.i /\ r.i <= 256) (h2 : 1 <= r.fr /\ r.fr <= 256) (h3 : 1 <= r.to /\ r.to <= 256) (h4 : 1 <= r.rc /\ r.rc <= 1024) (ht : RedT r) (H : Heap) :
   pcx (cbL tab) 55 [undA f r] H = some (.plain (.sl 1 7 (encs u64A [r.fr, r.fk, r.to, r.tk, r.rc, r.i, dirI r.dir]) .ro)) := by
 obtain ⟨w0, w1, w2, w3, w4, w5, w6, w7, w8, w9, w10, w11, w12, w13, w14, w15, hw⟩ := sixteen ht.wl
 refine pcx_N rfl (pc_wp (fi := c55) rfl ?_ (by simp [c55]) (by decide) ?_)
 . simp only [pcOn, List.map_cons, List.map_nil, hfL, hf_lend_sl, hf_lend_int, hf_lend_bool, hf_lend_str, hfL_append, Bool.and_self, Bool.and_true, Bool.true_and, c55, lend_und, hf_und]
 rw [List.map_cons, List.map_nil, lend_und]
 have v1 : IntKind.u64.wrap r.i = r.i := wrap_u64 (by omega) (by omega)
 have v2 : IntKind.u64.wrap r.fr = r.fr := wrap_u64 (by omega) (by omega)
 have v3 : IntKind.u64.wrap r.to = r.to := wrap_u64 (by omega) (by omega)
 have v4 : IntKind.u64.wrap r.rc = r.rc := wrap_u64 (by omega) (by omega)
 have hw2 : encs u64A r.ws = [.int .u64 w0, .int .u64 w1, .int .u64 w2, .int .u64 w3, .int .u64 w4, .int .u64 w5, .int .u64 w6, .int .u64 w7, .int .u64 w8, .int .u64 w9, .int .u64 w10, .int .u64 w11, .int .u64 w12, .int .u64 w13, .int .u64 w14, .int .u64 w15] := by rw [hw]; rfl
 unfold c55 undA redA frmA
 rw [hw2]
 have es : encs u64A [r.fr, r.fk, r.to, r.tk, r.rc, r.i, dirI r.dir] = [.int .u64 r.fr, .int .u64 r.fk, .int .u64 r.to, .int .u64 r.tk, .int .u64 r.rc, .int .u64 r.i, .int .u64 (dirI r.dir)] := rfl
 rw [es]
 simp only [List.cons_append, List.nil_append]
 cases hd : r.dir
 . have e : dirI false = 0 := rfl
   simp (disch := omega) only [wk, tupled, ↓reduceIte, reduceEqDiff, reduceEq, reduceAdd, reduceCtorEq, v1, v2, v3, v4, e, purify, unownT, lend, unown, AV.hf, hfL, Tk.hf]
 . have e : dirI true = 1 := rfl
   simp (disch := omega) only [wk, tupled, ↓reduceIte, reduceEqDiff, reduceEq, reduceAdd, reduceCtorEq, v1, v2, v3, v4, e, purify, unownT, lend, unown, AV.hf, hfL, Tk.hf]
theorem mayB_1 {f : Frm} {r : Redo} (h : r.k = 1) : mayB f r ↔ fileW r.ws = true /\ r = bareR r := by
 obtain ⟨k, i, ws, fr, to, fk, tk, rc, dir⟩ := r
 dsimp only at h
 subst h
 unfold mayB bareR
 simp only [Redo.mk.injEq, true_and]
 constructor
 . rintro (⟨a, h⟩ | h)
   . exact ⟨a, by simpa using h⟩
   . omega
 . rintro ⟨a, h⟩
   exact .inl ⟨a, by simpa using h⟩
theorem mayB_2 {f : Frm} {r : Redo} (h : r.k = 2) : mayB f r ↔ r.ws = ws0 /\ (1 <= r.fr /\ r.fr <= f.i) /\ (1 <= r.to /\ r.to <= f.i) /\ (1 <= r.rc /\ r.rc <= f.r) /\ (r.fr ≠ r.to ∨ r.fk ≠ r.tk) := by
 unfold mayB
 constructor
 . rintro (h1 | h1)
   . omega
   . exact h1.2
 . exact fun h1 => .inr ⟨h, h1⟩
def kdR (r : Redo) : AV := if r.k = 1 then kd1 else kd2
theorem red_lit {r : Redo} (ht : RedT r) : ∃ w0 w1 w2 w3 w4 w5 w6 w7 w8 w9 w10 w11 w12 w13 w14 w15, redA r = [.int .i64 r.k, .int .i64 r.i, .int .u64 w0, .int .u64 w1, .int .u64 w2, .int .u64 w3, .int .u64 w4, .int .u64 w5, .int .u64 w6, .int .u64 w7, .int .u64 w8, .int .u64 w9, .int .u64 w10, .int .u64 w11, .int .u64 w12, .int .u64 w13, .int .u64 w14, .int .u64 w15, .int .i64 r.fr, .int .i64 r.to, .int .u64 r.fk, .int .u64 r.tk, .int .i64 r.rc, .bool r.dir] := by
 obtain ⟨w0, w1, w2, w3, w4, w5, w6, w7, w8, w9, w10, w11, w12, w13, w14, w15, hw⟩ := sixteen ht.wl
 refine ⟨w0, w1, w2, w3, w4, w5, w6, w7, w8, w9, w10, w11, w12, w13, w14, w15, ?_⟩
 unfold redA
 rw [hw]
 rfl
theorem jright_no {f : Frm} {c d e g : Int} (h : ¬ okL f c d e g) (k0 k1 : Int) (r : Redo) (ht : RedT r) (H : Heap) : pcx (cbL tab) 34 [.agg (lyA f k0 k1 c d e g), .agg (redA r)] H = some (panJ 2) := by
 have sp := fun H => jlaid_no h k0 k1 H
 clear h
 have e1 : lend (.agg (lyA f k0 k1 c d e g)) = .agg (lyA f k0 k1 c d e g) := rfl
 have e2 : lend (.agg (redA r)) = .agg (redA r) := by show AV.agg ((redA r).map unown) = _; rw [lend_redA]
 have hr := hf_redA r
 refine pcx_N rfl (pc_wp (fi := c34) rfl ?_ (by simp [c34]) (by decide) ?_)
 . show hfL [lend _, lend _] = true
   rw [e1, e2]
   simp only [hfL, AV.hf, hr]
   rfl
 rw [List.map_cons, List.map_cons, List.map_nil, e1, e2]
 clear e1 e2 hr
 obtain ⟨w0, w1, w2, w3, w4, w5, w6, w7, w8, w9, w10, w11, w12, w13, w14, w15, hw⟩ := red_lit ht
 rw [hw]
 have pj : ∀ H : Heap, purify (some (.pan [(.iface 35 (.int .i64 2), false)], H)) = some (panJ 2) := fun H => rfl
 unfold panJ at sp
 unfold c34
 unfold lyA frmA at sp ⊢
 simp only [List.cons_append, List.nil_append] at sp ⊢
 simp (disch := omega) only [wk, tupled, ↓reduceIte, reduceEqDiff, reduceEq, reduceAdd, reduceCtorEq, sp, pj]
theorem jright_px {f : Frm} (h : okF f) {k0 k1 : Int} (h0 : U64 k0) (h1 : U64 k1) (r : Redo) (ht : RedT r) (H : Heap) : pcx (cbL tab) 34 [.agg (layA f k0 k1), .agg (redA r)] H = some (if mayR f r then .plain (kdR r) else panJ 310) := by
 have sp := fun H => jlaid_ok h h0 h1 H
 clear h
 have e1 : lend (.agg (layA f k0 k1)) = .agg (layA f k0 k1) := rfl
 have e2 : lend (.agg (redA r)) = .agg (redA r) := by show AV.agg ((redA r).map unown) = _; rw [lend_redA]
 have hr := hf_redA r
 refine pcx_N rfl (pc_wp (fi := c34) rfl ?_ (by simp [c34]) (by decide) ?_)
 . show hfL [lend _, lend _] = true
   rw [e1, e2]
   simp only [hfL, AV.hf, hr]
   rfl
 rw [List.map_cons, List.map_cons, List.map_nil, e1, e2]
 clear e1 e2 hr
 obtain ⟨w0, w1, w2, w3, w4, w5, w6, w7, w8, w9, w10, w11, w12, w13, w14, w15, hw⟩ := red_lit ht
 have m1 := fun H => jmay1_px f r ht H
 have m2 := fun H => jmay2_px f r ht H
 unfold undA at m1 m2
 rw [hw] at m1 m2 ⊢
 have pj : ∀ H : Heap, purify (some (.pan [(.iface 35 (.int .i64 310), false)], H)) = some (panJ 310) := fun H => rfl
 have kp := fun H => jkinds_px H
 have ip := fun H => jin_px r.i 1 f.i H
 have mt := fun H => jmust_t 310 H
 have mf := fun H => jmust_f 310 H
 have f1 := jfind1
 have f2 := jfind2
 unfold panJ at mf
 unfold kd1 at f1
 unfold kd2 at f2
 unfold c34
 unfold layA frmA at sp ⊢
 unfold frmA at m1 m2
 simp only [List.cons_append, List.nil_append] at sp m1 m2 ⊢
 by_cases c1 : r.k = 1
 . have hmb := mayB_1 (f := f) c1
   by_cases c2 : 1 <= r.i /\ r.i <= f.i
   case neg =>
     have hm : ¬ mayR f r := fun h => c2 h.1
     rw [if_neg hm]
     rw [decide_eq_false c2] at ip
     clear hm c2 hmb
     simp (disch := omega) only [wk, tupled, ↓reduceIte, reduceEqDiff, reduceEq, reduceAdd, reduceCtorEq, sp, kp, List.getElem?_nil, c1, f1, cellEq_ii, ip, mf, pj]
   rw [decide_eq_true c2] at ip
   by_cases c3 : fileW r.ws = true /\ r = bareR r
   . have hm : mayR f r := ⟨c2, hmb.2 c3⟩
     rw [if_pos hm]
     rw [decide_eq_true c3] at m1
     have ek : kdR r = kd1 := if_pos c1
     rw [ek]
     unfold kd1
     rw [c1] at m1
     clear hm c2 hmb c3 hw ek
     simp (disch := omega) only [wk, tupled, ↓reduceIte, reduceEqDiff, reduceEq, reduceAdd, reduceCtorEq, sp, kp, List.getElem?_nil, c1, f1, cellEq_ii, ip, m1, mt, purify, unownT, lend, unown, AV.hf, hfL, Tk.hf]
   . have hm : ¬ mayR f r := fun h => c3 (hmb.1 h.2)
     rw [if_neg hm]
     rw [decide_eq_false c3] at m1
     rw [c1] at m1
     clear hm c2 hmb c3 hw
     simp (disch := omega) only [wk, tupled, ↓reduceIte, reduceEqDiff, reduceEq, reduceAdd, reduceCtorEq, sp, kp, List.getElem?_nil, c1, f1, cellEq_ii, ip, m1, mf, pj]
 by_cases c2 : r.k = 2
 . have hmb := mayB_2 (f := f) c2
   by_cases c3 : 1 <= r.i /\ r.i <= f.i
   case neg =>
     have hm : ¬ mayR f r := fun h => c3 h.1
     rw [if_neg hm]
     rw [decide_eq_false c3] at ip
     clear hm c3 hmb c1
     simp (disch := omega) only [wk, tupled, ↓reduceIte, reduceEqDiff, reduceEq, reduceAdd, reduceCtorEq, sp, kp, List.getElem?_nil, c2, f2, cellEq_ii, ip, mf, pj]
   rw [decide_eq_true c3] at ip
   by_cases c4 : r.ws = ws0 /\ (1 <= r.fr /\ r.fr <= f.i) /\ (1 <= r.to /\ r.to <= f.i) /\ (1 <= r.rc /\ r.rc <= f.r) /\ (r.fr ≠ r.to ∨ r.fk ≠ r.tk)
   . have hm : mayR f r := ⟨c3, hmb.2 c4⟩
     rw [if_pos hm]
     rw [decide_eq_true c4] at m2
     have ek : kdR r = kd2 := if_neg c1
     rw [ek]
     unfold kd2
     rw [c2] at m2
     clear hm c3 hmb c4 hw ek c1
     simp (disch := omega) only [wk, tupled, ↓reduceIte, reduceEqDiff, reduceEq, reduceAdd, reduceCtorEq, sp, kp, List.getElem?_nil, c2, f2, cellEq_ii, ip, m2, mt, purify, unownT, lend, unown, AV.hf, hfL, Tk.hf]
   . have hm : ¬ mayR f r := fun h => c4 (hmb.1 h.2)
     rw [if_neg hm]
     rw [decide_eq_false c4] at m2
     rw [c2] at m2
     clear hm c3 hmb c4 hw c1
     simp (disch := omega) only [wk, tupled, ↓reduceIte, reduceEqDiff, reduceEq, reduceAdd, reduceCtorEq, sp, kp, List.getElem?_nil, c2, f2, cellEq_ii, ip, m2, mf, pj]
 have hm : ¬ mayR f r := fun h => by rcases mayB_k h.2 with h | h; exact c1 h; exact c2 h
 rw [if_neg hm]
 have fn := jfind_no c1 c2
 clear hm c1 c2 hw
 simp (disch := omega) only [wk, tupled, ↓reduceIte, reduceEqDiff, reduceEq, reduceAdd, reduceCtorEq, sp, kp, List.getElem?_nil, fn, cellEq_ii, mf, pj]
structure Ly where
 k0 : Int
 k1 : Int
 c : Int
 d : Int
 e : Int
 g : Int
def lyV (f : Frm) (y : Ly) : AV := .agg (lyA f y.k0 y.k1 y.c y.d y.e y.g)
def okY (f : Frm) (y : Ly) : Prop := okL f y.c y.d y.e y.g
instance (f : Frm) (y : Ly) : Decidable (okY f y) := inferInstanceAs (Decidable (okL _ _ _ _ _))
structure LyT (y : Ly) : Prop where
 k0 : U64 y.k0
 k1 : U64 y.k1
theorem lyV_ok {f : Frm} {y : Ly} (h : okY f y) : lyV f y = .agg (layA f y.k0 y.k1) := by unfold lyV; rw [ly_ok h]
theorem lend_lyV (f : Frm) (y : Ly) : lend (lyV f y) = lyV f y := rfl
theorem hf_lyV (f : Frm) (y : Ly) : (lyV f y).hf = true := rfl
theorem lend_redV (r : Redo) : lend (.agg (redA r)) = .agg (redA r) := by show AV.agg ((redA r).map unown) = _; rw [lend_redA]
theorem hf_redV (r : Redo) : (AV.agg (redA r)).hf = true := hf_redA r
def checkJ (f : Frm) (y : Ly) (r : Redo) : Int := if okY f y then (if mayR f r then 0 else 310) else 2
def rightJ (f : Frm) (y : Ly) (r : Redo) : PR := if okY f y then (if mayR f r then .plain (kdR r) else panJ 310) else panJ 2
theorem jright_all {f : Frm} {y : Ly} (hy : LyT y) {r : Redo} (ht : RedT r) (H : Heap) : pcx (cbL tab) 34 [lyV f y, .agg (redA r)] H = some (rightJ f y r) := by
 unfold rightJ
 by_cases h : okY f y
 . rw [if_pos h, lyV_ok h]
   exact jright_px h.1 hy.k0 hy.k1 r ht H
 . rw [if_neg h]
   exact jright_no h y.k0 y.k1 r ht H
theorem rightJ_1 {f : Frm} {y : Ly} {r : Redo} (h : checkJ f y r = 0) : okY f y /\ mayR f r /\ rightJ f y r = .plain (kdR r) := by
 unfold checkJ at h
 unfold rightJ
 split at h
 . rename_i h1
   split at h
   . rename_i h2; exact ⟨h1, h2, by rw [if_pos h1, if_pos h2]⟩
   . cases h
 . cases h
theorem rightJ_0 {f : Frm} {y : Ly} {r : Redo} (h : ¬ checkJ f y r = 0) : rightJ f y r = panJ (checkJ f y r) := by
 unfold checkJ at h ⊢
 unfold rightJ
 split at h
 . rename_i h1
   split at h
   . exact absurd rfl h
   . rename_i h2; rw [if_pos h1, if_neg h2, if_pos h1, if_neg h2]
 . rename_i h1; rw [if_neg h1, if_neg h1]
theorem jhead_px (r : Redo) (hk : r.k = 1 ∨ r.k = 2) (H : Heap) : pcx (cbL tab) 30 [.int .i64 r.k, kdR r] H = some (.plain (.int .u64 (headR r))) := by
 have key : ∀ H, pcx (cbL tab) 30 [.int .i64 1, kd1] H = some (.plain (.int .u64 4353)) := fun H => pcx_ev rfl (by kernel_rfl) H
 have key2 : ∀ H, pcx (cbL tab) 30 [.int .i64 2, kd2] H = some (.plain (.int .u64 1794)) := fun H => pcx_ev rfl (by kernel_rfl) H
 unfold kdR headR
 rcases hk with h | h
 . rw [if_pos h, if_pos h, h]; exact key H
 . rw [if_neg (by omega), if_neg (by omega), h]; exact key2 H
theorem jconc2 {A B : List Int} {s1 s2 : Nat} {t1 t2 t3 : Tk} (h1 : A ≠ [] -> s1 = 1) (h2 : B ≠ [] -> s2 = 1) (hne : A ++ B ≠ []) (hl : A.length + B.length <= 1000000) (H : Heap) :
   pcx (cbL tab) 38 [.sl 1 2 [.sl s1 A.length (encs u64A A) t1, .sl s2 B.length (encs u64A B) t2] t3] H = some (.fresh 1 (A ++ B).length (encs u64A (A ++ B))) := by
 have lb : ∀ L : List Int, (encs u64A L).length = L.length := fun L => lenU L
 refine pcx_N rfl (pc_con (g := concC) rfl rfl ?_)
 have r1 : (A.length = 0 ∨ s1 = 1) /\ A.length * 1 <= (encs u64A A).length := ⟨by by_cases h : A = []; exact .inl (by rw [h]; rfl); exact .inr (h1 h), by rw [lb]; omega⟩
 have r2 : (B.length = 0 ∨ s2 = 1) /\ B.length * 1 <= (encs u64A B).length := ⟨by by_cases h : B = []; exact .inl (by rw [h]; rfl); exact .inr (h2 h), by rw [lb]; omega⟩
 have e1 : (encs u64A A).take (A.length * 1) = encs u64A A := List.take_of_length_le (by rw [lb]; omega)
 have e2 : (encs u64A B).take (B.length * 1) = encs u64A B := List.take_of_length_le (by rw [lb]; omega)
 have hr : rowsA [.sl s1 A.length (encs u64A A) t1, .sl s2 B.length (encs u64A B) t2] = some [encs u64A A, encs u64A B] := by
   simp only [rowsA, r1, r2, if_true, and_self, Option.map_some, e1, e2]
 have hf : ([encs u64A A, encs u64A B] : List (List AV)).flatten = encs u64A (A ++ B) := by rw [encs_append]; simp
 unfold concC
 have ht : ([.sl s1 A.length (encs u64A A) t1, .sl s2 B.length (encs u64A B) t2] : List AV).take 2 = [.sl s1 A.length (encs u64A A) t1, .sl s2 B.length (encs u64A B) t2] := rfl
 simp only [ht, hr, hf]
 have hn : (encs u64A (A ++ B)).length = (A ++ B).length := lb _
 have hz : ¬ encs u64A (A ++ B) = [] := fun h => by rw [h] at hn; exact hne (List.eq_nil_of_length_eq_zero hn.symm)
 have hc : 0 < 2 /\ 2 <= ([.sl s1 A.length (encs u64A A) t1, .sl s2 B.length (encs u64A B) t2] : List AV).length /\ 2 <= 4294967296 /\ (encs u64A (A ++ B)).length <= 4294967296 := ⟨by omega, by simp, by omega, by rw [hn, List.length_append]; omega⟩
 rw [if_pos hc, if_neg hz, hn, Nat.div_one]
theorem jsealed_px {l : List Int} (h0 : l ≠ []) (hl : l.length <= 100) (hw : ∀ w ∈ l, U64 w) {tk : Tk} (ht : tk = .ro ∨ ∃ g, tk = .own g) (H : Heap) :
   pcx (cbL tab) 37 [.sl 1 l.length (encs u64A l) tk] H = some (.fresh 1 (sealM l).length (encs u64A (sealM l))) := by
 have el : lend (.sl 1 l.length (encs u64A l) tk) = .sl 1 l.length (encs u64A l) .ro := by rcases ht with rfl | ⟨g, rfl⟩ <;> rfl
 have hfu : hfL (encs u64A l) = true := hfL_encs (fun _ => rfl) l
 refine pcx_N rfl (pc_wp (fi := c37) rfl ?_ (by simp [c37]) (by decide) ?_)
 . show hfL [lend _] = true
   rw [el]
   simp [hfL, AV.hf, hfu, Tk.hf]
 unfold c37
 rw [List.map_cons, List.map_nil, el]
 have bl := bytM_len l
 have sp := fun H => seal_px h0 hl (by omega) hw (tk := .ro) (.inl rfl) H
 have hne : sealM l ≠ [] := by unfold sealM; simp
 have ot := own_tok [] (sealM l) hne
 simp (disch := omega) only [wk, tupled, ↓reduceIte, reduceEqDiff, reduceEq, reduceAdd, reduceCtorEq, sp]
 rw [<- prRow_ne (f := u64A) (sz := 1) hne]
 exact purify_row (fun _ => rfl) ot (fun e => absurd e hne)
def wordsJ (f : Frm) (y : Ly) (r : Redo) : List Int := if checkJ f y r = 0 then wordsR r else []
def wordsJV (f : Frm) (y : Ly) (r : Redo) : AV := .tup [slvR 1 u64A (wordsJ f y r), .int .i64 (checkJ f y r)]
theorem jclear1 (o : Nat) (x : AV) (H : Heap) (hx : H[o]? = some (.cells [x])) : enterA (cbL tab) 36 [.ptr o 0] H = some (.ret (.tup []), H.set o (.cells [.sl 0 0 [] .z])) := by
 have : ∃ q H', (cbL tab).ic 36 [.ptr o 0] H = some (q, H') /\ q = .ret (.tup []) /\ H' = H.set o (.cells [.sl 0 0 [] .z]) := by
   refine ic_wp (fi := c36) rfl rfl (by simp [c36]) (by decide) ?_
   unfold c36
   simp (disch := omega) only [wk, tupled, ↓reduceIte, reduceEqDiff, reduceEq, reduceAdd, reduceCtorEq, hx, List.append_nil]
 obtain ⟨q, H', h, rfl, rfl⟩ := this
 exact enterA_ic rfl (pc_none (fi := c36) rfl rfl) h
theorem jlay_px (f : Frm) (hf : okF f) (r : Redo) (ht : RedT r) (hm : mayR f r) : ∃ g, (kdR r = .agg [.int .i64 ((bodyR r).length : Nat), .fn (if r.k = 1 then 49 else 53) [], .fn g [], .fn (if r.k = 1 then 52 else 56) []]) /\ (cbL tab).lent g = false ∧
   ((∀ H, pcx (cbL tab) g [undA f r] H = some (prRow 1 u64A (bodyR r))) ∨ (∀ H, pcx (cbL tab) g [undA f r] H = some (.plain (.sl 1 (bodyR r).length (encs u64A (bodyR r)) .ro)))) := by
 obtain ⟨⟨i1, i2⟩, hb⟩ := hm
 have hfi := hf.2.2.2.1
 have hfr := hf.2.2.2.2.2.2.1
 rcases hb with ⟨k1, _⟩ | ⟨k2, _, a1, a2, a3, _⟩
 . have b : bodyR r = r.i :: r.ws := if_pos k1
   refine ⟨51, ?_, rfl, .inl (fun H => ?_)⟩
   . unfold kdR
     have e : (r.i :: r.ws).length = 17 := by rw [List.length_cons, ht.wl]
     rw [if_pos k1, if_pos k1, if_pos k1, b, e]; rfl
   . rw [b]
     exact jlay1_px f r ht i1 (by omega) H
 . have k1 : ¬ r.k = 1 := by omega
   have b : bodyR r = [r.fr, r.fk, r.to, r.tk, r.rc, r.i, dirI r.dir] := if_neg k1
   refine ⟨55, ?_, rfl, .inr (fun H => ?_)⟩
   . unfold kdR
     rw [if_neg k1, if_neg k1, if_neg k1, b]; rfl
   . rw [b]
     exact jlay2_px f r ⟨i1, by omega⟩ ⟨a1.1, by omega⟩ ⟨a2.1, by omega⟩ ⟨a3.1, by omega⟩ ht H
theorem jwords_px {f : Frm} {y : Ly} (hy : LyT y) {r : Redo} (ht : RedT r) (H : Heap) : pcx (cbL tab) 14 [lyV f y, .agg (redA r)] H = some (.plain (wordsJV f y r)) := by
 refine pcx_N rfl (pc_wp (fi := c14) rfl ?_ (by simp [c14]) (by decide) ?_)
 . simp only [pcOn, List.map_cons, List.map_nil, hfL, hf_lend_sl, hf_lend_int, hf_lend_bool, hf_lend_str, hfL_append, Bool.and_self, Bool.and_true, Bool.true_and, c14, lend_lyV, lend_redV, hf_lyV, hf_redV]
 rw [List.map_cons, List.map_cons, List.map_nil, lend_lyV, lend_redV]
 have rp := fun H => jright_all (f := f) hy ht H
 unfold wordsJV wordsJ
 by_cases h : checkJ f y r = 0
 . obtain ⟨h1, h2, h3⟩ := rightJ_1 h
   rw [h3] at rp
   rw [if_pos h, h]
   obtain ⟨g, hk, hg, hl⟩ := jlay_px f h1.1 r ht h2
   have hd := fun H => jhead_px r (mayB_k h2.2) H
   have pl := plainR_len ht
   have pu := plainR_u ht h1.1 h2
   have pn : plainR r ≠ [] := by unfold plainR; simp
   have hb : bodyR r ≠ [] := by unfold bodyR; split <;> simp
   have pl2 : (plainR r).length <= 18 := by rw [pl]; split <;> omega
   have e1 : (plainR r).length = 1 + (bodyR r).length := by unfold plainR; simp; omega
   have cp := fun t2 H => jconc2 (A := [headR r]) (B := bodyR r) (s1 := 1) (s2 := 1) (t1 := .ro) (t2 := t2) (t3 := .ro) (fun _ => rfl) (fun _ => rfl) (by simp) (by simp; omega) H
   have sp := fun g H => jsealed_px pn (by omega) pu (tk := .own g) (.inr ⟨g, rfl⟩) H
   have sn : wordsR r ≠ [] := by unfold wordsR sealM; simp
   have hfw : hfL (encs u64A (wordsR r)) = true := hf_u64A _
   have pc0 : [headR r] ++ bodyR r = plainR r := rfl
   rw [hk] at rp hd
   simp only [pc0, List.length_cons, List.length_nil, Nat.zero_add] at cp
   have sv : slvR 1 u64A (wordsR r) = .sl 1 (wordsR r).length (encs u64A (wordsR r)) .ro := by
     unfold slvR
     have : (wordsR r).isEmpty = false := by cases hh : wordsR r with
       | nil => exact absurd hh sn
       | cons _ _ => rfl
     rw [this]; rfl
   have eh : encs u64A [headR r] = [.int .u64 (headR r)] := rfl
   rw [eh] at cp
   have es : sealM (plainR r) = wordsR r := rfl
   rw [es] at sp
   have ha : (lyV f y) = .agg (lyA f y.k0 y.k1 y.c y.d y.e y.g) := rfl
   obtain ⟨w0, w1, w2, w3, w4, w5, w6, w7, w8, w9, w10, w11, w12, w13, w14, w15, hw⟩ := red_lit ht
   rw [hw] at rp ⊢
   rw [sv]
   generalize wordsR r = W at *
   generalize bodyR r = B at *
   rw [prRow_ne hb] at hl
   unfold undA at hl
   rw [hw] at hl
   generalize plainR r = P at *
   clear hk hw h h1 h2 h3 pl ha es pc0 pu
   unfold c14
   unfold lyV lyA frmA at rp ⊢
   unfold frmA at hl
   simp only [List.cons_append, List.nil_append] at rp hl ⊢
   rcases hl with hl | hl
   . simp (disch := omega) only [wk, tupled, ↓reduceIte, reduceEqDiff, reduceEq, reduceAdd, reduceCtorEq, rp, hd, hl, cp, sp, runE_none hg]
     rw [ends_left_ret (jcaught_ret _ _ _ _)]
     simp (disch := omega) only [wk, tupled, ↓reduceIte, reduceEqDiff, reduceEq, reduceAdd, reduceCtorEq, purify, unownT, lend, unown, AV.hf, hfL, Tk.hf, hfw]
   . simp (disch := omega) only [wk, tupled, ↓reduceIte, reduceEqDiff, reduceEq, reduceAdd, reduceCtorEq, rp, hd, hl, cp, sp, runE_none hg]
     rw [ends_left_ret (jcaught_ret _ _ _ _)]
     simp (disch := omega) only [wk, tupled, ↓reduceIte, reduceEqDiff, reduceEq, reduceAdd, reduceCtorEq, purify, unownT, lend, unown, AV.hf, hfL, Tk.hf, hfw]
 . rw [rightJ_0 h] at rp
   unfold panJ at rp
   rw [if_neg h]
   obtain ⟨w0, w1, w2, w3, w4, w5, w6, w7, w8, w9, w10, w11, w12, w13, w14, w15, hw⟩ := red_lit ht
   rw [hw] at rp ⊢
   unfold c14
   unfold lyV lyA frmA at rp ⊢
   simp only [List.cons_append, List.nil_append] at rp ⊢
   clear h hw
   have sv : slvR 1 u64A ([] : List Int) = .sl 0 0 [] .z := rfl
   rw [sv]
   simp (disch := omega) only [wk, tupled, ↓reduceIte, reduceEqDiff, reduceEq, reduceAdd, reduceCtorEq, rp]
   rw [ends_left_pan (jcaught_pan 3 _ _ _ _ _ _ _ (jclear1 2 _ _ rfl) rfl)]
   simp (disch := omega) only [wk, tupled, ↓reduceIte, reduceEqDiff, reduceEq, reduceAdd, reduceCtorEq, purify, unownT, lend, unown, AV.hf, hfL, Tk.hf]
theorem in_next {args : List AV} {H : Heap} : pcx (cbL tab) 32 args H = none := pcx_none rfl (pc_none (fi := c32) rfl rfl)
theorem ll_next : (cbL tab).lent 32 = false := rfl
theorem in_numb {args : List AV} {H : Heap} : pcx (cbL tab) 33 args H = none := pcx_none rfl (pc_none (fi := c33) rfl rfl)
theorem ll_numb : (cbL tab).lent 33 = false := rfl
structure NxH (a b c : Nat) (B : List Int) (tk : Tk) (H : Heap) : Prop where
 ab : a ≠ b
 ac : a ≠ c
 ha : a < H.length
 hb : H[b]? = some (.cells [.sl 1 B.length (encs u64A B) tk])
 hc : H[c]? = some (.cells [.fn 32 [.ptr a 0, .ptr b 0]])
def StJ (H : Heap) (a n : Nat) (T : List AObj) : Heap := H.set a (.cells [.int .i64 (n : Nat)]) ++ T
theorem st_a {H : Heap} {a n : Nat} {T : List AObj} (h : a < H.length) : (StJ H a n T)[a]? = some (.cells [.int .i64 (n : Nat)]) := by
 unfold StJ
 rw [List.getElem?_append_left (by simpa using h), List.getElem?_set_self h]
theorem st_o {H : Heap} {a n k : Nat} {T : List AObj} {o : AObj} (h : a ≠ k) (hk : H[k]? = some o) : (StJ H a n T)[k]? = some o := by
 unfold StJ
 have := (List.getElem?_eq_some_iff.1 hk).1
 rw [List.getElem?_append_left (by simpa using this), List.getElem?_set_ne h, hk]
theorem st_set {H : Heap} {a n m : Nat} {T : List AObj} (h : a < H.length) : (StJ H a n T).set a (.cells [.int .i64 (m : Nat)]) = StJ H a m T := by
 unfold StJ
 rw [List.set_append_left _ _ (by simpa using h), List.set_set]
theorem next_ic {a b c : Nat} {B : List Int} {tk : Tk} {H : Heap} (hx : NxH a b c B tk H) (n : Nat) (T : List AObj) (hn : n + 1 < B.length) (hl : B.length <= 1000) :
   (cbL tab).ic 32 [.ptr a 0, .ptr b 0] (StJ H a n T) = some (.ret (.int .u64 (B.getD (n + 1) 0)), StJ H a (n + 1) T) := by
 have : ∃ q H', (cbL tab).ic 32 [.ptr a 0, .ptr b 0] (StJ H a n T) = some (q, H') /\ q = .ret (.int .u64 (B.getD (n + 1) 0)) /\ H' = StJ H a (n + 1) T := by
   refine ic_wp (fi := c32) rfl rfl (by simp [c32]) (by decide) ?_
   unfold c32
   have h1 := st_a (n := n) (T := T) hx.ha
   have h2 := st_o (n := n + 1) (T := T) hx.ab hx.hb
   have h3 := st_a (n := n + 1) (T := T) hx.ha
   have h4 : (StJ H a n T).set a (.cells [.int .i64 ((n : Int) + 1)]) = StJ H a (n + 1) T := st_set (m := n + 1) hx.ha
   have h5 : (List.drop (n + 1) (encs u64A B))[0]? = some (.int .u64 (B.getD (n + 1) 0)) := by rw [List.getElem?_drop]; exact getU B (n + 1) hn
   have e : ((n + 1 : Nat) : Int) = (n : Int) + 1 := by omega
   rw [e] at h3
   have n1 : (n : Int) + 1 < (B.length : Int) := by omega
   have n2 : 0 <= (n : Int) + 1 := by omega
   have n3 : ((n : Int) + 1).toNat = n + 1 := by omega
   simp (disch := omega) only [wk, tupled, ↓reduceIte, reduceEqDiff, reduceEq, reduceAdd, reduceCtorEq, h1, h2, h3, h4, h5, n1, n2, n3, Nat.mul_one]
 obtain ⟨q, H', h, rfl, rfl⟩ := this
 exact h
theorem numb_ic {a b c : Nat} {B : List Int} {tk : Tk} {H : Heap} (hx : NxH a b c B tk H) (n : Nat) (T : List AObj) (hn : n + 1 < B.length) (hl : B.length <= 1000) (hw : ∀ w ∈ B, U64 w) :
   (cbL tab).ic 33 [.ptr c 0] (StJ H a n T) = some (if B.getD (n + 1) 0 < 2147483648 then .ret (.int .i64 (B.getD (n + 1) 0)) else .pan [(.iface 35 (.int .i64 310), false)], StJ H a (n + 1) T) := by
 have : ∃ q H', (cbL tab).ic 33 [.ptr c 0] (StJ H a n T) = some (q, H') /\ q = (if B.getD (n + 1) 0 < 2147483648 then .ret (.int .i64 (B.getD (n + 1) 0)) else .pan [(.iface 35 (.int .i64 310), false)]) /\ H' = StJ H a (n + 1) T := by
   refine ic_wp (fi := c33) rfl rfl (by simp [c33]) (by decide) ?_
   unfold c33
   have h1 := st_o (n := n) (T := T) hx.ac hx.hc
   have nx := next_ic hx n T hn hl
   have hu : U64 (B.getD (n + 1) 0) := by
     have : B.getD (n + 1) 0 = B[n + 1] := by rw [List.getD_eq_getElem?_getD, List.getElem?_eq_getElem hn]; rfl
     rw [this]
     exact hw _ (List.getElem_mem hn)
   generalize B.getD (n + 1) 0 = x at nx hu ⊢
   have x0 := hu.1
   have mt := fun H => jmust_t 310 H
   have mf := fun H => jmust_f 310 H
   unfold panJ at mf
   by_cases h : x < 2147483648
   . have v : IntKind.i64.wrap x = x := wrap_i64 (by omega) (by omega)
     simp (disch := omega) only [wk, tupled, ↓reduceIte, reduceEqDiff, reduceEq, reduceAdd, reduceCtorEq, h1, in_next, runE_none ll_next, nx, h, mt, v]
   . simp (disch := omega) only [wk, tupled, ↓reduceIte, reduceEqDiff, reduceEq, reduceAdd, reduceCtorEq, h1, in_next, runE_none ll_next, nx, h, mf]
 obtain ⟨q, H', h, rfl, rfl⟩ := this
 exact h
theorem st_0 {H : Heap} {a : Nat} (T : List AObj) (h : H[a]? = some (.cells [.int .i64 0])) : H ++ T = StJ H a 0 T := by
 unfold StJ
 have e : (AObj.cells [.int .i64 ((0 : Nat) : Int)]) = .cells [.int .i64 0] := rfl
 have hlt := (List.getElem?_eq_some_iff.1 h).1
 have hs : H.set a (AObj.cells [.int .i64 0]) = H := List.ext_getElem? fun k => by
   by_cases hk : a = k
   . subst hk; rw [List.getElem?_set_self hlt, h]
   . rw [List.getElem?_set_ne hk]
 rw [e, hs]
theorem st_g {H : Heap} {a n : Nat} (Z : List AV) : (StJ H a n [.cells Z])[H.length]? = some (.cells Z) := by
 unfold StJ
 rw [List.getElem?_append_right (by simp)]
 simp
theorem st_s {H : Heap} {a n : Nat} (Z Z' : List AV) : (StJ H a n [.cells Z]).set H.length (.cells Z') = StJ H a n [.cells Z'] := by
 unfold StJ
 rw [List.set_append_right _ _ (by simp)]
 simp
theorem st_k {H : Heap} {a n : Nat} (T : List AObj) : H.length <= (StJ H a n T).length /\ ∀ k, k ≠ a -> k < H.length -> (StJ H a n T)[k]? = H[k]? := by
 unfold StJ
 refine ⟨by simp, fun k hk hl => ?_⟩
 rw [List.getElem?_append_left (by simpa using hl), List.getElem?_set_ne (fun e => hk e.symm)]
def TakJ (g : FuncId) (a b c : Nat) (H : Heap) (ok : Prop) (r : Redo) : Prop :=
 ∃ o H', (cbL tab).ic g [.fn 32 [.ptr a 0, .ptr b 0], .fn 33 [.ptr c 0]] H = some (o, H') /\ ((ok /\ o = .ret (.agg (redA r))) ∨ (¬ ok /\ o = .pan [(.iface 35 (.int .i64 310), false)])) /\ H.length <= H'.length /\ ∀ k, k ≠ a -> k < H.length -> H'[k]? = H[k]?
def ok6 (B : List Int) : Prop := B.getD 1 0 < 2147483648 /\ B.getD 3 0 < 2147483648 /\ B.getD 5 0 < 2147483648 /\ B.getD 6 0 < 2147483648 /\ B.getD 7 0 <= 1
def red6 (B : List Int) : Redo := ⟨0, B.getD 6 0, ws0, B.getD 1 0, B.getD 3 0, B.getD 2 0, B.getD 4 0, B.getD 5 0, decide (B.getD 7 0 = 1)⟩
theorem take6 {a b c : Nat} {B : List Int} {tk : Tk} {H : Heap} (hx : NxH a b c B tk H) (h0 : H[a]? = some (.cells [.int .i64 0])) (hl : B.length = 8) (hw : ∀ w ∈ B, U64 w) :
   TakJ 56 a b c H (ok6 B) (red6 B) := by
 have : ∃ o H', (cbL tab).ic 56 [.fn 32 [.ptr a 0, .ptr b 0], .fn 33 [.ptr c 0]] H = some (o, H') /\ (((ok6 B) /\ o = .ret (.agg (redA (red6 B)))) ∨ (¬ (ok6 B) /\ o = .pan [(.iface 35 (.int .i64 310), false)])) /\ H.length <= H'.length /\ ∀ k, k ≠ a -> k < H.length -> H'[k]? = H[k]? := by
   refine ic_wp (fi := c56) rfl rfl (by simp [c56]) (by decide) ?_
   have s0 := fun T => st_0 T h0
   have g1 := fun n Z => st_g (H := H) (a := a) (n := n) Z
   have g2 := fun n Z Z' => st_s (H := H) (a := a) (n := n) Z Z'
   have kk := fun n T => st_k (H := H) (a := a) (n := n) T
   have hl2 : B.length <= 1000 := by omega
   have n0 : ∀ T, (cbL tab).ic 33 [.ptr c 0] (StJ H a 0 T) = some (if B.getD 1 0 < 2147483648 then .ret (.int .i64 (B.getD 1 0)) else .pan [(.iface 35 (.int .i64 310), false)], StJ H a 1 T) := fun T => numb_ic hx 0 T (by omega) hl2 hw
   have n1 : ∀ T, (cbL tab).ic 32 [.ptr a 0, .ptr b 0] (StJ H a 1 T) = some (.ret (.int .u64 (B.getD 2 0)), StJ H a 2 T) := fun T => next_ic hx 1 T (by omega) hl2
   have n2 : ∀ T, (cbL tab).ic 33 [.ptr c 0] (StJ H a 2 T) = some (if B.getD 3 0 < 2147483648 then .ret (.int .i64 (B.getD 3 0)) else .pan [(.iface 35 (.int .i64 310), false)], StJ H a 3 T) := fun T => numb_ic hx 2 T (by omega) hl2 hw
   have n3 : ∀ T, (cbL tab).ic 32 [.ptr a 0, .ptr b 0] (StJ H a 3 T) = some (.ret (.int .u64 (B.getD 4 0)), StJ H a 4 T) := fun T => next_ic hx 3 T (by omega) hl2
   have n4 : ∀ T, (cbL tab).ic 33 [.ptr c 0] (StJ H a 4 T) = some (if B.getD 5 0 < 2147483648 then .ret (.int .i64 (B.getD 5 0)) else .pan [(.iface 35 (.int .i64 310), false)], StJ H a 5 T) := fun T => numb_ic hx 4 T (by omega) hl2 hw
   have n5 : ∀ T, (cbL tab).ic 33 [.ptr c 0] (StJ H a 5 T) = some (if B.getD 6 0 < 2147483648 then .ret (.int .i64 (B.getD 6 0)) else .pan [(.iface 35 (.int .i64 310), false)], StJ H a 6 T) := fun T => numb_ic hx 5 T (by omega) hl2 hw
   have n6 : ∀ T, (cbL tab).ic 32 [.ptr a 0, .ptr b 0] (StJ H a 6 T) = some (.ret (.int .u64 (B.getD 7 0)), StJ H a 7 T) := fun T => next_ic hx 6 T (by omega) hl2
   have rr : red6 B = ⟨0, B.getD 6 0, ws0, B.getD 1 0, B.getD 3 0, B.getD 2 0, B.getD 4 0, B.getD 5 0, decide (B.getD 7 0 = 1)⟩ := rfl
   have oo : ok6 B ↔ (B.getD 1 0 < 2147483648 /\ B.getD 3 0 < 2147483648 /\ B.getD 5 0 < 2147483648 /\ B.getD 6 0 < 2147483648 /\ B.getD 7 0 <= 1) := Iff.rfl
   generalize B.getD 1 0 = b1, B.getD 2 0 = b2, B.getD 3 0 = b3, B.getD 4 0 = b4, B.getD 5 0 = b5, B.getD 6 0 = b6, B.getD 7 0 = b7 at *
   have mt := fun H => jmust_t 310 H
   have mf := fun H => jmust_f 310 H
   unfold panJ at mf
   generalize ok6 B = O at *
   rw [rr]
   clear rr
   unfold c56
   by_cases c1 : b1 < 2147483648
   case neg =>
     have no : ¬ O := fun h => c1 ((oo.1 h).1)
     simp (disch := omega) only [wk, tupled, ↓reduceIte, reduceEqDiff, reduceEq, reduceAdd, reduceCtorEq, s0, g1, g2, in_next, runE_none ll_next, in_numb, runE_none ll_numb, n0, n1, n2, n3, n4, n5, n6, c1]
     exact ⟨.inr no, kk _ _⟩
   by_cases c3 : b3 < 2147483648
   case neg =>
     have no : ¬ O := fun h => c3 ((oo.1 h).2.1)
     simp (disch := omega) only [wk, tupled, ↓reduceIte, reduceEqDiff, reduceEq, reduceAdd, reduceCtorEq, s0, g1, g2, in_next, runE_none ll_next, in_numb, runE_none ll_numb, n0, n1, n2, n3, n4, n5, n6, c1, c3]
     exact ⟨.inr no, kk _ _⟩
   by_cases c5 : b5 < 2147483648
   case neg =>
     have no : ¬ O := fun h => c5 ((oo.1 h).2.2.1)
     simp (disch := omega) only [wk, tupled, ↓reduceIte, reduceEqDiff, reduceEq, reduceAdd, reduceCtorEq, s0, g1, g2, in_next, runE_none ll_next, in_numb, runE_none ll_numb, n0, n1, n2, n3, n4, n5, n6, c1, c3, c5]
     exact ⟨.inr no, kk _ _⟩
   by_cases c6 : b6 < 2147483648
   case neg =>
     have no : ¬ O := fun h => c6 ((oo.1 h).2.2.2.1)
     simp (disch := omega) only [wk, tupled, ↓reduceIte, reduceEqDiff, reduceEq, reduceAdd, reduceCtorEq, s0, g1, g2, in_next, runE_none ll_next, in_numb, runE_none ll_numb, n0, n1, n2, n3, n4, n5, n6, c1, c3, c5, c6]
     exact ⟨.inr no, kk _ _⟩
   by_cases c7 : b7 <= 1
   case neg =>
     have no : ¬ O := fun h => c7 ((oo.1 h).2.2.2.2)
     simp (disch := omega) only [wk, tupled, ↓reduceIte, reduceEqDiff, reduceEq, reduceAdd, reduceCtorEq, s0, g1, g2, in_next, runE_none ll_next, in_numb, runE_none ll_numb, n0, n1, n2, n3, n4, n5, n6, c1, c3, c5, c6, c7, mf]
     exact ⟨.inr no, kk _ _⟩
   have yes : O := oo.2 ⟨c1, c3, c5, c6, c7⟩
   simp (disch := omega) only [wk, tupled, ↓reduceIte, reduceEqDiff, reduceEq, reduceAdd, reduceCtorEq, s0, g1, g2, in_next, runE_none ll_next, in_numb, runE_none ll_numb, n0, n1, n2, n3, n4, n5, n6, c1, c3, c5, c6, c7, mt]
   exact ⟨.inl ⟨yes, rfl⟩, kk _ _⟩
 exact this
def wsJ (B : List Int) (j : Nat) : List Int := (B.drop 2).take j ++ List.replicate (16 - j) 0
theorem wsJ_len {B : List Int} (h : B.length = 18) {j : Nat} (hj : j <= 16) : (wsJ B j).length = 16 := by
 unfold wsJ
 rw [List.length_append, List.length_take, List.length_drop, List.length_replicate]
 omega
theorem wsJ_set {B : List Int} (h : B.length = 18) {j : Nat} (hj : j < 16) : (wsJ B j).set j (B.getD (j + 2) 0) = wsJ B (j + 1) := by
 unfold wsJ
 have l1 : ((B.drop 2).take j).length = j := by rw [List.length_take, List.length_drop]; omega
 have hr : 16 - j = (16 - (j + 1)) + 1 := by omega
 have hg : (B.drop 2)[j]? = some (B.getD (j + 2) 0) := by
   rw [List.getElem?_drop, List.getD_eq_getElem?_getD, show 2 + j = j + 2 by omega, List.getElem?_eq_getElem (by omega)]
   rfl
 rw [List.set_append_right _ _ (by omega), l1, Nat.sub_self, hr, List.replicate_succ, List.set_cons_zero, List.take_add_one, hg]
 simp
theorem wsJ_end {B : List Int} : wsJ B 16 = (B.drop 2).take 16 := by unfold wsJ; simp
theorem cellsW (x y : AV) (ws : List Int) (t : List AV) (j : Nat) (hj : j < ws.length) (v : Int) :
   List.take (2 + j) (x :: y :: (encs u64A ws ++ t)) ++ [.int .u64 v] ++ List.drop (2 + j) (y :: (encs u64A ws ++ t)) = x :: y :: (encs u64A (ws.set j v) ++ t) := by
 have e := setU ws j v hj
 have l := lenU ws
 rw [show 2 + j = (j + 1) + 1 by omega, List.take_succ_cons, List.take_succ_cons, List.drop_succ_cons, List.take_append_of_le_length (by omega), List.drop_append_of_le_length (by omega), <- e]
 simp
def ok3 (B : List Int) : Prop := B.getD 1 0 < 2147483648
def red3 (B : List Int) : Redo := ⟨0, B.getD 1 0, (B.drop 2).take 16, 0, 0, 0, 0, 0, false⟩
def t6z : List AV := [.int .i64 0, .int .i64 0, .int .u64 0, .int .u64 0, .int .i64 0, .bool false]
theorem st_g0 {H : Heap} {a n : Nat} (Z R : List AV) : (StJ H a n [.cells Z, .cells R])[H.length]? = some (.cells Z) := by
 unfold StJ
 rw [List.getElem?_append_right (by simp)]
 simp
theorem st_g1 {H : Heap} {a n : Nat} (Z R : List AV) : (StJ H a n [.cells Z, .cells R])[H.length + 1]? = some (.cells R) := by
 unfold StJ
 rw [List.getElem?_append_right (by simp)]
 simp
theorem st_s0 {H : Heap} {a n : Nat} (Z R Z' : List AV) : (StJ H a n [.cells Z, .cells R]).set H.length (.cells Z') = StJ H a n [.cells Z', .cells R] := by
 unfold StJ
 rw [List.set_append_right _ _ (by simp)]
 simp
theorem st_s1 {H : Heap} {a n : Nat} (Z R R' : List AV) : (StJ H a n [.cells Z, .cells R]).set (H.length + 1) (.cells R') = StJ H a n [.cells Z, .cells R'] := by
 unfold StJ
 rw [List.set_append_right _ _ (by simp)]
 simp
theorem st_p {H : Heap} {a n : Nat} (Z R : List AV) : StJ H a n [.cells Z] ++ [.cells R] = StJ H a n [.cells Z, .cells R] := by
 unfold StJ
 simp
theorem st_l {H : Heap} {a n : Nat} (Z : List AV) : (StJ H a n [.cells Z]).length = H.length + 1 := by
 unfold StJ
 simp
theorem take3 {a b c : Nat} {B : List Int} {tk : Tk} {H : Heap} (hx : NxH a b c B tk H) (h0 : H[a]? = some (.cells [.int .i64 0])) (hl : B.length = 18) (hw : ∀ w ∈ B, U64 w) :
   TakJ 52 a b c H (ok3 B) (red3 B) := by
 have : ∃ o H', (cbL tab).ic 52 [.fn 32 [.ptr a 0, .ptr b 0], .fn 33 [.ptr c 0]] H = some (o, H') /\ (((ok3 B) /\ o = .ret (.agg (redA (red3 B)))) ∨ (¬ (ok3 B) /\ o = .pan [(.iface 35 (.int .i64 310), false)])) /\ H.length <= H'.length /\ ∀ k, k ≠ a -> k < H.length -> H'[k]? = H[k]? := by
   refine ic_wp (fi := c52) rfl rfl (by simp [c52]) (by decide) ?_
   have s0 := fun T => st_0 T h0
   have g0 := fun n Z R => st_g0 (H := H) (a := a) (n := n) Z R
   have g1 := fun n Z R => st_g1 (H := H) (a := a) (n := n) Z R
   have p0 := fun n Z R => st_s0 (H := H) (a := a) (n := n) Z R
   have p1 := fun n Z R => st_s1 (H := H) (a := a) (n := n) Z R
   have pp := fun n Z R => st_p (H := H) (a := a) (n := n) Z R
   have sl := fun n Z => st_l (H := H) (a := a) (n := n) Z
   have kk := fun n T => st_k (H := H) (a := a) (n := n) T
   have hl2 : B.length <= 1000 := by omega
   have n0 : ∀ T, (cbL tab).ic 33 [.ptr c 0] (StJ H a 0 T) = some (if B.getD 1 0 < 2147483648 then .ret (.int .i64 (B.getD 1 0)) else .pan [(.iface 35 (.int .i64 310), false)], StJ H a 1 T) := fun T => numb_ic hx 0 T (by omega) hl2 hw
   have rr : red3 B = ⟨0, B.getD 1 0, wsJ B 16, 0, 0, 0, 0, 0, false⟩ := by rw [wsJ_end]; rfl
   have oo : ok3 B ↔ B.getD 1 0 < 2147483648 := Iff.rfl
   generalize hO : ok3 B = O at *
   rw [rr]
   clear rr hO
   generalize B.getD 1 0 = b1 at *
   unfold c52
   by_cases c1 : b1 < 2147483648
   case neg =>
     have no : ¬ O := fun h => c1 (oo.1 h)
     simp (disch := omega) only [wk, tupled, ↓reduceIte, reduceEqDiff, reduceEq, reduceAdd, reduceCtorEq, s0, in_numb, runE_none ll_numb, n0, c1]
     exact ⟨.inr no, kk _ _⟩
   have yes : O := oo.2 c1
   simp (disch := omega) only [wk, tupled, ↓reduceIte, reduceEqDiff, reduceEq, reduceAdd, reduceCtorEq, s0, g0, g1, p0, p1, pp, sl, in_numb, runE_none ll_numb, n0, c1]
   refine loop_ind (fun (j : Nat) E df H1 => j <= 16 /\ E 0 = .fn 32 [.ptr a 0, .ptr b 0] /\ E 4 = .ptr H.length 0 /\ E 5 = .ptr (H.length + 1) 0 /\ E 10 = .int .i64 (j : Nat) /\ df = [] ∧
       H1 = StJ H a (1 + j) [.cells (redA red0), .cells (.int .i64 0 :: .int .i64 b1 :: (encs u64A (wsJ B j) ++ t6z))])
     (fun j => 16 - j) 0 (by decide) (.inl rfl) ⟨by omega, rfl, rfl, rfl, rfl, rfl, rfl⟩ ?_
   intro j E df H1 ih hP
   obtain ⟨hj, E0, E4, E5, E10, hdf, hH⟩ := hP
   subst hdf hH
   by_cases hj2 : j < 16
   . have m1 : (j : Int) < 16 := by omega
     have nx : ∀ T, (cbL tab).ic 32 [.ptr a 0, .ptr b 0] (StJ H a (1 + j) T) = some (.ret (.int .u64 (B.getD (j + 2) 0)), StJ H a (1 + (j + 1)) T) := fun T => by
       have t := next_ic hx (1 + j) T (by omega) hl2
       have ea : B.getD (1 + j + 1) 0 = B.getD (j + 2) 0 := by rw [show 1 + j + 1 = j + 2 by omega]
       rw [ea, show 1 + j + 1 = 1 + (j + 1) by omega] at t
       exact t
     have wl := wsJ_len hl (j := j) (by omega)
     have lw := lenU (wsJ B j)
     have cw := cellsW (.int .i64 0) (.int .i64 b1) (wsJ B j) t6z j (by omega) (B.getD (j + 2) 0)
     rw [wsJ_set hl hj2] at cw
     have l6 : t6z.length = 6 := rfl
     simp (disch := omega) only [wk, tupled, ↓reduceIte, reduceEqDiff, reduceEq, reduceAdd, reduceCtorEq, E0, E4, E5, E10, m1, in_next, runE_none ll_next, nx, g1, p1, wl, lw, l6, cw]
     refine ih (j + 1) _ _ _ (by omega) ⟨by omega, by simp only [en, ↓reduceIte, reduceEqDiff, E0], by simp only [en, ↓reduceIte, reduceEqDiff, E4], by simp only [en, ↓reduceIte, reduceEqDiff, E5], by simp only [en, ↓reduceIte, reduceEqDiff], rfl, rfl⟩
   . obtain rfl : j = 16 := by omega
     have m1 : ¬ ((16 : Nat) : Int) < 16 := by omega
     have eR : AV.int .i64 0 :: .int .i64 b1 :: (encs u64A (wsJ B 16) ++ t6z) = redA ⟨0, b1, wsJ B 16, 0, 0, 0, 0, 0, false⟩ := rfl
     have wl := wsJ_len hl (j := 16) (by omega)
     have hl24 : ∀ r : Redo, r.ws.length = 16 -> (redA r).length = 24 := fun r h => by
       unfold redA
       simp only [List.length_cons, List.length_append, lenU, h, List.length_nil]
     have l0 := hl24 red0 rfl
     have oR : allOne (redA ⟨0, b1, wsJ B 16, 0, 0, 0, 0, 0, false⟩) = true := by
       have e : redA ⟨0, b1, wsJ B 16, 0, 0, 0, 0, 0, false⟩ = [.int .i64 0, .int .i64 b1] ++ (encs u64A (wsJ B 16) ++ t6z) := rfl
       rw [e, allOne_append, allOne_append, one_u64A]
       rfl
     have lR := hl24 ⟨0, b1, wsJ B 16, 0, 0, 0, 0, 0, false⟩ wl
     rw [eR] at *
     generalize redA ⟨0, b1, wsJ B 16, 0, 0, 0, 0, 0, false⟩ = R at *
     have tR : List.take 24 R = R := List.take_of_length_le (by omega)
     have d0 : List.drop 24 (redA red0) = [] := List.drop_of_length_le (by omega)
     have fl : (AV.agg R).flat = R := rfl
     simp (disch := omega) only [wk, tupled, ↓reduceIte, reduceEqDiff, reduceEq, reduceAdd, reduceCtorEq, E0, E4, E5, E10, m1, g0, g1, p0, tR, d0, oR, fl, l0, lR, List.append_nil]
     exact ⟨.inl yes, kk _ _⟩
 exact this
theorem sopen_px {A : List Int} {x : Int} (h0 : A ≠ []) (hl : A.length <= 90) (hw : ∀ w ∈ A, U64 w) (H : Heap) : pcx (cbL tab) 31 [.sl 1 (A.length + 1) (encs u64A A ++ [.int .u64 x]) .ro] H =
   some (.plain (if moreM 0 (bytM A) = x then .tup [.sl 1 A.length (encs u64A A) .ro, .int .i64 0] else .tup [.sl 0 0 [] .z, .int .i64 130])) := by
 have e1 : lend (.sl 1 (A.length + 1) (encs u64A A ++ [.int .u64 x]) .ro) = .sl 1 (A.length + 1) (encs u64A A ++ [.int .u64 x]) .ro := rfl
 have hfu : hfL (encs u64A A) = true := hfL_encs (fun _ => rfl) A
 have n0 : A.length ≠ 0 := fun e => h0 (List.eq_nil_of_length_eq_zero e)
 refine pcx_N rfl (pc_wp (fi := c31) rfl ?_ (by simp [c31]) (by decide) ?_)
 . show hfL [lend _] = true
   rw [e1]
   simp [hfL, AV.hf, hfL_append, hfu, Tk.hf]
 unfold c31
 rw [List.map_cons, List.map_nil, e1]
 have bl := bytM_len A
 have sp := fun tk H => wsum_px h0 (by omega) (by omega) hw tk H
 have cp := fun H => cloneU_px h0 (by omega) (tk := .ro) (.inl rfl) H
 have t1 : List.take A.length (encs u64A A ++ [AV.int .u64 x]) = encs u64A A := by rw [<- lenU A, List.take_left]
 have d1 : List.drop A.length (encs u64A A ++ [AV.int .u64 x]) = [.int .u64 x] := by rw [<- lenU A, List.drop_left]
 have lu := lenU A
 have m1 : ((A.length : Int) + 1 - 1).toNat = A.length := by omega
 have m2 : (Tk.ro).isZ = false := rfl
 by_cases h : moreM 0 (bytM A) = x
 . rw [if_pos h]
   simp (disch := omega) only [wk, tupled, ↓reduceIte, reduceEqDiff, reduceEq, reduceAdd, reduceCtorEq, sp, cp, t1, d1, h, lu, m1, m2, hfu, purify, unownT, lend, unown, AV.hf, hfL, Tk.hf]
 . rw [if_neg h]
   simp (disch := omega) only [wk, tupled, ↓reduceIte, reduceEqDiff, reduceEq, reduceAdd, reduceCtorEq, sp, cp, t1, d1, h, lu, m1, m2, hfu, purify, unownT, lend, unown, AV.hf, hfL, Tk.hf]
def outJ (f : Frm) (y : Ly) (w : List Int) : Redo × Bool × Int := if okY f y then ofW f w else (red0, false, 2)
def outV (x : Redo × Bool × Int) : AV := .tup [.agg (redA x.1), .bool x.2.1, .int .i64 x.2.2]
theorem jclear2 (o p : Nat) (x : List AV) (z : AV) (H : Heap) (hop : o ≠ p) (hx : H[o]? = some (.cells x)) (hl : x.length = 24) (hz : H[p]? = some (.cells [z])) : enterA (cbL tab) 26 [.ptr o 0, .ptr p 0] H = some (.ret (.tup []), (H.set o (.cells (redA red0))).set p (.cells [.bool false])) := by
 have : ∃ q H', (cbL tab).ic 26 [.ptr o 0, .ptr p 0] H = some (q, H') /\ q = .ret (.tup []) /\ H' = (H.set o (.cells (redA red0))).set p (.cells [.bool false]) := by
   refine ic_wp (fi := c26) rfl rfl (by simp [c26]) (by decide) ?_
   unfold c26
   have d : List.drop 24 x = [] := List.drop_of_length_le (by omega)
   have h2 : ∀ A, (H.set o A)[p]? = some (.cells [z]) := fun A => by rw [List.getElem?_set_ne hop]; exact hz
   have e : redA red0 = [.int .i64 0, .int .i64 0, .int .u64 0, .int .u64 0, .int .u64 0, .int .u64 0, .int .u64 0, .int .u64 0, .int .u64 0, .int .u64 0, .int .u64 0, .int .u64 0, .int .u64 0, .int .u64 0, .int .u64 0, .int .u64 0, .int .u64 0, .int .u64 0, .int .i64 0, .int .i64 0, .int .u64 0, .int .u64 0, .int .i64 0, .bool false] := rfl
   rw [e]
   simp (disch := omega) only [wk, tupled, ↓reduceIte, reduceEqDiff, reduceEq, reduceAdd, reduceCtorEq, hx, hl, d, h2, List.append_nil]
 obtain ⟨q, H', h, rfl, rfl⟩ := this
 exact enterA_ic rfl (pc_none (fi := c26) rfl rfl) h
theorem and255 {xo yo : X} {ek : EqK} {r : Int} (h : U64 r) : binV .and ek xo yo (.int .u64 r) (.int .u64 255) = some (.int .u64 (r % 256)) := by
 obtain ⟨a, rfl⟩ := Int.eq_ofNat_of_zero_le h.1
 have := u64_and (xo := xo) (yo := yo) (ek := ek) (a := a) (b := 255) (by have := h.2; omega)
 rw [show (255 : Nat) % 18446744073709551616 = 2 ^ 8 - 1 from rfl, Nat.and_two_pow_sub_one_eq_mod] at this
 exact this
theorem unownT_out (r : Redo) (b : Bool) (e : Int) : unownT (.tup [.agg (redA r), .bool b, .int .i64 e]) = .tup [.agg (redA r), .bool b, .int .i64 e] := by
 simp only [unownT, List.map_cons, List.map_nil, lend_redV, lend_int]
 rfl
theorem purify_out (r : Redo) (b : Bool) (e : Int) (H : Heap) : purify (some (.ret (.tup [.agg (redA r), .bool b, .int .i64 e]), H)) = some (.plain (outV (r, b, e))) := by
 have h : (AV.tup [.agg (redA r), .bool b, .int .i64 e]).hf = true := by
   show ((AV.agg (redA r)).hf && _) = true
   rw [hf_redV]; rfl
 show (if (unownT (.tup [.agg (redA r), .bool b, .int .i64 e])).hf then some (PR.plain (unownT (.tup [.agg (redA r), .bool b, .int .i64 e]))) else none) = _
 rw [unownT_out, if_pos h]; rfl
theorem red0_lit : redA red0 = [.int .i64 0, .int .i64 0, .int .u64 0, .int .u64 0, .int .u64 0, .int .u64 0, .int .u64 0, .int .u64 0, .int .u64 0, .int .u64 0, .int .u64 0, .int .u64 0, .int .u64 0, .int .u64 0, .int .u64 0, .int .u64 0, .int .u64 0, .int .u64 0, .int .i64 0, .int .i64 0, .int .u64 0, .int .u64 0, .int .i64 0, .bool false] := rfl
theorem jof_1 {f : Frm} {y : Ly} (hy : LyT y) (w : List Int) (rest : List AV) (s : Nat) (tk : Tk) (hs : w ≠ [] -> s = 1) (ht0 : tk.hf = true) (hr : hfL rest = true) (hw : ∀ x ∈ w, U64 x) (hl : w.length <= 1000)
   (hc : ¬ okY f y ∨ (okY f y /\ w.length ≠ 64) ∨ (okY f y /\ w.length = 64 /\ w.getD 0 0 = 0) ∨ (okY f y /\ w.length = 64 /\ w.getD 0 0 ≠ 0 /\ w.getD 0 0 ≠ 4353 /\ w.getD 0 0 ≠ 1794)) :
   (cbL tab).pc 10 [lyV f y, .sl s w.length (encs u64A w ++ rest) tk] = some (.plain (outV (outJ f y w))) := by
 obtain ⟨u1, e1, f1⟩ := lend_sl s w.length (encs u64A w ++ rest) tk
 have hfu : hfL (encs u64A w) = true := hf_u64A w
 refine pc_wp (fi := c10) rfl ?_ (by simp [c10]) (by decide) ?_
 . simp only [pcOn, List.map_cons, List.map_nil, hfL, hf_lend_sl, hf_lend_int, hf_lend_bool, hf_lend_str, hfL_append, Bool.and_self, Bool.and_true, Bool.true_and, c10, lend_lyV, hf_lyV, hfu, hr, AV.hf, ht0]
 rw [List.map_cons, List.map_cons, List.map_nil, lend_lyV, e1]
 have mt := fun H => jmust_t 310 H
 have mf := fun H => jmust_f 310 H
 have pz := fun e H => purify_out red0 false e H
 rw [red0_lit] at pz
 unfold panJ at mf
 unfold outJ
 unfold c10
 by_cases hok : okY f y
 case neg =>
   have la := fun H => jlaid_no (f := f) (c := y.c) (d := y.d) (e := y.e) (g := y.g) hok y.k0 y.k1 H
   unfold panJ at la
   rw [if_neg hok]
   clear hok hc
   unfold lyV lyA frmA at *
   simp only [List.cons_append, List.nil_append] at la ⊢
   simp (disch := omega) only [wk, tupled, ↓reduceIte, reduceEqDiff, reduceEq, reduceAdd, reduceCtorEq, la]
   rw [ends_left_pan (jcaught_pan 3 _ _ _ _ _ _ _ (jclear2 1 2 _ _ _ (by decide) rfl rfl rfl) rfl), red0_lit]
   simp (disch := omega) only [wk, tupled, ↓reduceIte, reduceEqDiff, reduceEq, reduceAdd, reduceCtorEq, pz]
 have la := fun H => jlaid_ok hok.1 hy.k0 hy.k1 H
 rw [<- lyV_ok hok] at la
 rw [if_pos hok]
 unfold ofW
 unfold lyV lyA frmA at *
 simp only [List.cons_append, List.nil_append] at la ⊢
 by_cases h64 : w.length = 64
 case neg =>
   rw [if_pos h64]
   have h64' : ¬ (w.length : Int) = 64 := by omega
   clear hc
   simp (disch := omega) only [wk, tupled, ↓reduceIte, reduceEqDiff, reduceEq, reduceAdd, reduceCtorEq, la, h64', mf]
   rw [ends_left_pan (jcaught_pan 3 _ _ _ _ _ _ _ (jclear2 1 2 _ _ _ (by decide) rfl rfl rfl) rfl), red0_lit]
   simp (disch := omega) only [wk, tupled, ↓reduceIte, reduceEqDiff, reduceEq, reduceAdd, reduceCtorEq, pz]
 rw [if_neg (fun h => h h64)]
 obtain rfl := hs (by intro h; rw [h] at h64; cases h64)
 have g0 : (encs u64A w ++ rest)[0]? = some (.int .u64 (w.getD 0 0)) := by
   rw [List.getElem?_append_left (by rw [lenU]; omega)]
   exact getU w 0 (by omega)
 have hu : U64 (w.getD 0 0) := by
   have : w.getD 0 0 = w[0] := by rw [List.getD_eq_getElem?_getD, List.getElem?_eq_getElem (by omega)]; rfl
   rw [this]
   exact hw _ (List.getElem_mem _)
 have hgw : w.getD 0 0 ≠ 4353 -> w.getD 0 0 ≠ 1794 -> ¬ goodW f w := fun a b h => by
   rcases h.1 with h | h
   . exact a h
   . exact b h.1
 generalize w.getD 0 0 = w0 at *
 have i64 : ((64 : Nat) : Int) = 64 := rfl
 have i0 : (0 : Int).toNat = 0 := rfl
 rw [h64]
 by_cases hz : w0 = 0
 . rw [if_pos hz]
   simp (disch := omega) only [wk, tupled, ↓reduceIte, reduceEqDiff, reduceEq, reduceAdd, reduceCtorEq, la, i64, i0, mt, g0, hz]
   rw [ends_left_ret (jcaught_ret _ _ _ _)]
   simp (disch := omega) only [wk, tupled, ↓reduceIte, reduceEqDiff, reduceEq, reduceAdd, reduceCtorEq, pz]
 have hc2 : w0 ≠ 4353 /\ w0 ≠ 1794 := by
   rcases hc with h | h | h | h
   . exact absurd hok h
   . exact absurd h64 h.2
   . exact absurd h.2.2 hz
   . exact h.2.2.2
 have hg : ¬ goodW f w := hgw hc2.1 hc2.2
 rw [if_neg hz, if_neg hg]
 have an := fun xo yo ek => and255 (xo := xo) (yo := yo) (ek := ek) hu
 have x0 := hu.1
 have x1 := hu.2
 have v1 : IntKind.i64.wrap (w0 % 256) = w0 % 256 := wrap_i64 (by omega) (by omega)
 have kp := fun H => jkinds_px H
 by_cases k1 : w0 % 256 = 1
 . have f1 := jfind1
   unfold kd1 at f1
   have hd : ∀ H, pcx (cbL tab) 30 [.int .i64 1, kd1] H = some (.plain (.int .u64 4353)) := fun H => pcx_ev rfl (by kernel_rfl) H
   unfold kd1 at hd
   have c1 := hc2.1
   simp (disch := omega) only [wk, tupled, ↓reduceIte, reduceEqDiff, reduceEq, reduceAdd, reduceCtorEq, la, i64, i0, mt, g0, hz, an, v1, kp, List.getElem?_nil, k1, f1, cellEq_ii, hd, c1, mf]
   rw [ends_left_pan (jcaught_pan 3 _ _ _ _ _ _ _ (jclear2 1 2 _ _ _ (by decide) rfl rfl rfl) rfl), red0_lit]
   simp (disch := omega) only [wk, tupled, ↓reduceIte, reduceEqDiff, reduceEq, reduceAdd, reduceCtorEq, pz]
 by_cases k2 : w0 % 256 = 2
 . have f2 := jfind2
   unfold kd2 at f2
   have hd : ∀ H, pcx (cbL tab) 30 [.int .i64 2, kd2] H = some (.plain (.int .u64 1794)) := fun H => pcx_ev rfl (by kernel_rfl) H
   unfold kd2 at hd
   have c2 := hc2.2
   simp (disch := omega) only [wk, tupled, ↓reduceIte, reduceEqDiff, reduceEq, reduceAdd, reduceCtorEq, la, i64, i0, mt, g0, hz, an, v1, kp, List.getElem?_nil, k2, f2, cellEq_ii, hd, c2, mf]
   rw [ends_left_pan (jcaught_pan 3 _ _ _ _ _ _ _ (jclear2 1 2 _ _ _ (by decide) rfl rfl rfl) rfl), red0_lit]
   simp (disch := omega) only [wk, tupled, ↓reduceIte, reduceEqDiff, reduceEq, reduceAdd, reduceCtorEq, pz]
 have fn := jfind_no k1 k2
 simp (disch := omega) only [wk, tupled, ↓reduceIte, reduceEqDiff, reduceEq, reduceAdd, reduceCtorEq, la, i64, i0, mt, g0, hz, an, v1, kp, List.getElem?_nil, fn, cellEq_ii, mf]
 rw [ends_left_pan (jcaught_pan 3 _ _ _ _ _ _ _ (jclear2 1 2 _ _ _ (by decide) rfl rfl rfl) rfl), red0_lit]
 simp (disch := omega) only [wk, tupled, ↓reduceIte, reduceEqDiff, reduceEq, reduceAdd, reduceCtorEq, pz]
def withK (r : Redo) (k : Int) : Redo := { r with k := k }
theorem jof_2 {f : Frm} {y : Ly} (hy : LyT y) (hok : okY f y) (w : List Int) (rest : List AV) (tk : Tk) (htk : tk = .ro ∨ ∃ g, tk = .own g) (ht0 : tk.hf = true) (hr : hfL rest = true) (hw : ∀ x ∈ w, U64 x) (h64 : w.length = 64)
   (k m : Int) (n q : Nat) (f1 f2 ft : FuncId) (w0 : Int) (hw0 : w.getD 0 0 = w0) (hnz : w0 ≠ 0) (hmod : w0 % 256 = k) (hk : k = 1 ∨ k = 2) (hm : m + 1 = (n : Nat)) (hn1 : 1 <= n) (hn2 : n <= 18)
   (fd : findA 0 (.int .i64 k) jkE 0 = some (some (q, .agg [.int .i64 m, .fn f1 [], .fn f2 [], .fn ft []])))
   (hd : ∀ H, pcx (cbL tab) 30 [.int .i64 k, .agg [.int .i64 m, .fn f1 [], .fn f2 [], .fn ft []]] H = some (.plain (.int .u64 w0)))
   (ok : Prop) (r : Redo) (htak : ∀ {a b c : Nat} {H : Heap} {tk : Tk}, NxH a b c (w.take n) tk H -> H[a]? = some (.cells [.int .i64 0]) -> TakJ ft a b c H ok r)
   (hin : ∀ H, pcx (cbL tab) ft [.fn 32 [.ptr 7 0, .ptr 6 0], .fn 33 [.ptr 8 0]] H = none) (hll : (cbL tab).lent ft = false)
   (hrt : ok -> RedT (withK r k)) (hgood : goodW f w ↔ ok /\ mayR f (withK r k) /\ moreM 0 (bytM (w.take n)) = w.getD n 0) (hdec : decR w = withK r k) :
   (cbL tab).pc 10 [lyV f y, .sl 1 w.length (encs u64A w ++ rest) tk] = some (.plain (outV (outJ f y w))) := by
 have e1 : lend (.sl 1 w.length (encs u64A w ++ rest) tk) = .sl 1 w.length (encs u64A w ++ rest) .ro := by rcases htk with rfl | ⟨g, rfl⟩ <;> rfl
 have hfu : hfL (encs u64A w) = true := hf_u64A w
 refine pc_wp (fi := c10) rfl ?_ (by simp [c10]) (by decide) ?_
 . simp only [pcOn, List.map_cons, List.map_nil, hfL, hf_lend_sl, hf_lend_int, hf_lend_bool, hf_lend_str, hfL_append, Bool.and_self, Bool.and_true, Bool.true_and, c10, lend_lyV, hf_lyV, hfu, hr, AV.hf, ht0]
 rw [List.map_cons, List.map_cons, List.map_nil, lend_lyV, e1]
 have mt := fun H => jmust_t 310 H
 have mf := fun H => jmust_f 310 H
 have pz := fun e H => purify_out red0 false e H
 rw [red0_lit] at pz
 unfold panJ at mf
 have la := fun H => jlaid_ok hok.1 hy.k0 hy.k1 H
 rw [<- lyV_ok hok] at la
 unfold outJ
 rw [if_pos hok]
 unfold ofW
 rw [if_neg (fun h => h h64), hw0, if_neg hnz]
 have g0 : (encs u64A w ++ rest)[0]? = some (.int .u64 w0) := by
   rw [List.getElem?_append_left (by rw [lenU]; omega), <- hw0]
   exact getU w 0 (by omega)
 have hu : U64 w0 := by
   have : w.getD 0 0 = w[0] := by rw [List.getD_eq_getElem?_getD, List.getElem?_eq_getElem (by omega)]; rfl
   rw [<- hw0, this]
   exact hw _ (List.getElem_mem _)
 have an := fun xo yo ek => and255 (xo := xo) (yo := yo) (ek := ek) hu
 have x0 := hu.1
 have x1 := hu.2
 have v1 : IntKind.i64.wrap (w0 % 256) = w0 % 256 := wrap_i64 (by omega) (by omega)
 rw [hmod] at an v1
 have kp := fun H => jkinds_px H
 have bw : ∀ x ∈ w.take n, U64 x := fun x hx => hw x (List.mem_of_mem_take hx)
 have bl : (w.take n).length = n := by rw [List.length_take]; omega
 have bn : w.take n ≠ [] := fun h => by rw [h] at bl; simp at bl; omega
 have op := fun H => sopen_px (A := w.take n) (x := w.getD n 0) bn (by omega) bw H
 rw [bl] at op
 have tw : List.take (n + 1) (encs u64A w ++ rest) = encs u64A (w.take n) ++ [.int .u64 (w.getD n 0)] := by
   rw [List.take_append_of_le_length (by rw [lenU]; omega), List.take_add_one, getU w n (by omega)]
   congr 1
   rw [encs_mapU, encs_mapU, List.map_take]
 have i64 : ((64 : Nat) : Int) = 64 := rfl
 have i0 : (0 : Int).toNat = 0 := rfl
 have m2 : (m + 2).toNat = n + 1 := by omega
 have m3 : m + 2 <= 64 := by omega
 have m4 : 0 <= m + 2 := by omega
 have z0 : (Tk.ro).isZ = false := rfl
 have lw : (encs u64A w).length = 64 := by rw [lenU, h64]
 rw [h64]
 clear h64 hfu e1
 unfold c10
 unfold lyV lyA frmA at *
 simp only [List.cons_append, List.nil_append] at la ⊢
 by_cases hs : moreM 0 (bytM (w.take n)) = w.getD n 0
 case neg =>
   have hg : ¬ goodW f w := fun h => hs (hgood.1 h).2.2
   rw [if_neg hg]
   have on : ∀ A B : AV, (if moreM 0 (bytM (w.take n)) = w.getD n 0 then A else B) = B := fun A B => if_neg hs
   rw [on] at op
   clear hgood hg hs hdec htak hin hll hrt
   simp (disch := omega) only [wk, tupled, ↓reduceIte, reduceEqDiff, reduceEq, reduceAdd, reduceCtorEq, la, i64, i0, mt, g0, hnz, an, v1, kp, List.getElem?_nil, fd, cellEq_ii, hd, tw, m2, m3, m4, z0, lw, op, mf]
   rw [ends_left_pan (jcaught_pan 3 _ _ _ _ _ _ _ (jclear2 1 2 _ _ _ (by decide) rfl rfl rfl) rfl), red0_lit]
   simp (disch := omega) only [wk, tupled, ↓reduceIte, reduceEqDiff, reduceEq, reduceAdd, reduceCtorEq, pz]
 have on : ∀ A B : AV, (if moreM 0 (bytM (w.take n)) = w.getD n 0 then A else B) = A := fun A B => if_pos hs
 rw [on] at op
 obtain ⟨Hd, hHd⟩ : ∃ Hd : Heap, Hd = [.cells [.int .i64 f.b, .int .i64 f.i, .int .i64 f.r, .int .i64 f.t, .int .u64 y.k0, .int .u64 y.k1, .int .i64 y.c, .int .i64 y.d, .int .i64 y.e, .int .i64 y.g], .cells (redA red0), .cells [.bool false], .cells [.int .i64 0], .map jkE,
   .cells [.int .i64 m, .fn f1 [], .fn f2 [], .fn ft []], .cells [.sl 1 n (encs u64A (List.take n w)) .ro], .cells [.int .i64 0], .cells [.fn 32 [.ptr 7 0, .ptr 6 0]]] := ⟨_, rfl⟩
 have lHd : Hd.length = 9 := by rw [hHd]; rfl
 have nx : NxH 7 6 8 (w.take n) .ro Hd := ⟨by decide, by decide, by omega, by rw [hHd, bl]; rfl, by rw [hHd]; rfl⟩
 obtain ⟨o, H2, p1, p2, p3, p4⟩ := htak nx (by rw [hHd]; rfl)
 have q0 : H2[0]? = some (.cells [.int .i64 f.b, .int .i64 f.i, .int .i64 f.r, .int .i64 f.t, .int .u64 y.k0, .int .u64 y.k1, .int .i64 y.c, .int .i64 y.d, .int .i64 y.e, .int .i64 y.g]) := by rw [p4 0 (by decide) (by omega), hHd]; rfl
 have q1 : H2[1]? = some (.cells (redA red0)) := by rw [p4 1 (by decide) (by omega), hHd]; rfl
 have q2 : H2[2]? = some (.cells [.bool false]) := by rw [p4 2 (by decide) (by omega), hHd]; rfl
 have q3 : H2[3]? = some (.cells [.int .i64 0]) := by rw [p4 3 (by decide) (by omega), hHd]; rfl
 rw [hHd, red0_lit] at p1
 rw [lHd] at p3
 clear hHd lHd nx p4
 have a1 : ∀ A, (H2.set 1 A)[1]? = some A := fun A => List.getElem?_set_self (by omega)
 have a0 : ∀ A, (H2.set 1 A)[0]? = some (.cells [.int .i64 f.b, .int .i64 f.i, .int .i64 f.r, .int .i64 f.t, .int .u64 y.k0, .int .u64 y.k1, .int .i64 y.c, .int .i64 y.d, .int .i64 y.e, .int .i64 y.g]) := fun A => by rw [List.getElem?_set_ne (by decide)]; exact q0
 have a2 : ∀ A, (H2.set 1 A)[2]? = some (.cells [.bool false]) := fun A => by rw [List.getElem?_set_ne (by decide)]; exact q2
 have a3 : ∀ A B, ((H2.set 1 A).set 2 B)[3]? = some (.cells [.int .i64 0]) := fun A B => by rw [List.getElem?_set_ne (by decide), List.getElem?_set_ne (by decide)]; exact q3
 have b1 : ∀ A B C, (((H2.set 1 A).set 2 B).set 3 C)[1]? = some A := fun A B C => by rw [List.getElem?_set_ne (by decide), List.getElem?_set_ne (by decide), List.getElem?_set_self (by omega)]
 have b2 : ∀ A B C, (((H2.set 1 A).set 2 B).set 3 C)[2]? = some B := fun A B C => by rw [List.getElem?_set_ne (by decide), List.getElem?_set_self (by rw [List.length_set]; omega)]
 have b3 : ∀ A B C, (((H2.set 1 A).set 2 B).set 3 C)[3]? = some C := fun A B C => List.getElem?_set_self (by rw [List.length_set, List.length_set]; omega)
 rcases p2 with ⟨hy1, rfl⟩ | ⟨hno, rfl⟩
 case inr =>
   have hg : ¬ goodW f w := fun h => hno (hgood.1 h).1
   rw [if_neg hg]
   clear hgood hg hs hdec htak hrt hno
   simp (disch := omega) only [wk, tupled, ↓reduceIte, reduceEqDiff, reduceEq, reduceAdd, reduceCtorEq, la, i64, i0, mt, g0, hnz, an, v1, kp, List.getElem?_nil, fd, cellEq_ii, hd, tw, m2, m3, m4, z0, lw, op, hin, runE_none hll, p1]
   rw [ends_left_pan (jcaught_pan 3 _ _ _ _ _ _ _ (jclear2 1 2 _ _ _ (by decide) q1 rfl q2) (a3 _ _)), red0_lit]
   simp (disch := omega) only [wk, tupled, ↓reduceIte, reduceEqDiff, reduceEq, reduceAdd, reduceCtorEq, b1, b2, b3, pz]
 have ht := hrt hy1
 have rp := fun H => jright_px hok.1 hy.k0 hy.k1 (withK r k) ht H
 rw [<- lyV_ok hok] at rp
 have pk := fun H => purify_out (withK r k) true 0 H
 obtain ⟨w1, w2, w3, w4, w5, w6, w7, w8, w9, w10, w11, w12, w13, w14, w15, w16, hws⟩ := sixteen ht.wl
 have ek : redA (withK r k) = [.int .i64 k, .int .i64 r.i, .int .u64 w1, .int .u64 w2, .int .u64 w3, .int .u64 w4, .int .u64 w5, .int .u64 w6, .int .u64 w7, .int .u64 w8, .int .u64 w9, .int .u64 w10, .int .u64 w11, .int .u64 w12, .int .u64 w13, .int .u64 w14, .int .u64 w15, .int .u64 w16, .int .i64 r.fr, .int .i64 r.to, .int .u64 r.fk, .int .u64 r.tk, .int .i64 r.rc, .bool r.dir] := by
   unfold redA
   rw [hws]
   rfl
 have er : redA r = [.int .i64 r.k, .int .i64 r.i, .int .u64 w1, .int .u64 w2, .int .u64 w3, .int .u64 w4, .int .u64 w5, .int .u64 w6, .int .u64 w7, .int .u64 w8, .int .u64 w9, .int .u64 w10, .int .u64 w11, .int .u64 w12, .int .u64 w13, .int .u64 w14, .int .u64 w15, .int .u64 w16, .int .i64 r.fr, .int .i64 r.to, .int .u64 r.fk, .int .u64 r.tk, .int .i64 r.rc, .bool r.dir] := by
   have hws' : r.ws = [w1, w2, w3, w4, w5, w6, w7, w8, w9, w10, w11, w12, w13, w14, w15, w16] := hws
   unfold redA
   rw [hws']
   rfl
 rw [ek] at rp pk
 rw [er] at p1
 rw [red0_lit] at q1
 unfold lyV lyA frmA at rp
 simp only [List.cons_append, List.nil_append] at rp
 by_cases hm : mayR f (withK r k)
 . have hg : goodW f w := hgood.2 ⟨hy1, hm, hs⟩
   rw [if_pos hg, hdec]
   have rq := fun H => (rp H).trans (by rw [if_pos hm])
   clear rp hgood hg hs hdec htak hrt hm ek er hws ht
   have hk4 : ∃ c1 c2 c3 c4, kdR (withK r k) = .agg [.int .i64 c1, .fn c2 [], .fn c3 [], .fn c4 []] := by
     unfold kdR
     split
     . exact ⟨_, _, _, _, rfl⟩
     . exact ⟨_, _, _, _, rfl⟩
   obtain ⟨c1, c2, c3, c4, hk4⟩ := hk4
   rw [hk4] at rq
   simp (disch := omega) only [wk, tupled, ↓reduceIte, reduceEqDiff, reduceEq, reduceAdd, reduceCtorEq, la, i64, i0, mt, g0, hnz, an, v1, kp, List.getElem?_nil, fd, cellEq_ii, hd, tw, m2, m3, m4, z0, lw, op, hin, runE_none hll, p1, q0, q1, q2, q3, a0, a1, a2, a3, List.set_set, rq, List.append_nil]
   rw [ends_left_ret (jcaught_ret _ _ _ _)]
   simp (disch := omega) only [wk, tupled, ↓reduceIte, reduceEqDiff, reduceEq, reduceAdd, reduceCtorEq, b1, b2, b3, List.set_set, pk]
 . have hg : ¬ goodW f w := fun h => hm (hgood.1 h).2.1
   rw [if_neg hg]
   have rq := fun H => (rp H).trans (by rw [if_neg hm])
   unfold panJ at rq
   clear rp hgood hg hs hdec htak hrt hm ek er hws ht
   simp (disch := omega) only [wk, tupled, ↓reduceIte, reduceEqDiff, reduceEq, reduceAdd, reduceCtorEq, la, i64, i0, mt, g0, hnz, an, v1, kp, List.getElem?_nil, fd, cellEq_ii, hd, tw, m2, m3, m4, z0, lw, op, hin, runE_none hll, p1, q0, q1, q2, q3, a0, a1, a2, a3, List.set_set, rq, List.append_nil]
   rw [ends_left_pan (jcaught_pan 3 _ _ _ _ _ _ _ (jclear2 1 2 _ _ _ (by decide) (a1 _) rfl (a2 _)) (by rw [List.set_set]; exact a3 _ _)), red0_lit]
   simp (disch := omega) only [wk, tupled, ↓reduceIte, reduceEqDiff, reduceEq, reduceAdd, reduceCtorEq, b1, b2, b3, List.set_set, pz]
theorem lo0 : (-9223372036854775808 : Int) <= 0 := by decide
theorem hi0 : (0 : Int) < 9223372036854775808 := by decide
theorem lo1 : (-9223372036854775808 : Int) <= 1 := by decide
theorem hi1 : (1 : Int) < 9223372036854775808 := by decide
theorem lo2 : (-9223372036854775808 : Int) <= 2 := by decide
theorem hi2 : (2 : Int) < 9223372036854775808 := by decide
theorem u0 : U64 0 := ⟨by decide, by decide⟩
theorem getD_take {l : List Int} {i n : Nat} (h : i < n) : (l.take n).getD i 0 = l.getD i 0 := by
 rw [List.getD_eq_getElem?_getD, List.getElem?_take, if_pos h, <- List.getD_eq_getElem?_getD]
theorem getD_u {w : List Int} (hw : ∀ x ∈ w, U64 x) (i : Nat) : U64 (w.getD i 0) := by
 by_cases h : i < w.length
 . have : w.getD i 0 = w[i] := by rw [List.getD_eq_getElem?_getD, List.getElem?_eq_getElem h]; rfl
   rw [this]
   exact hw _ (List.getElem_mem h)
 . have : w.getD i 0 = 0 := by rw [List.getD_eq_getElem?_getD, List.getElem?_eq_none (by omega)]; rfl
   rw [this]
   exact ⟨by decide, by decide⟩
theorem seal_iff {w : List Int} {n : Nat} (h : n < w.length) : sealM (w.take n) = w.take (n + 1) ↔ moreM 0 (bytM (w.take n)) = w.getD n 0 := by
 have e : w.take (n + 1) = w.take n ++ [w.getD n 0] := by
   rw [List.take_add_one, List.getElem?_eq_getElem h, List.getD_eq_getElem?_getD, List.getElem?_eq_getElem h]
   rfl
 rw [e]
 unfold sealM
 constructor
 . intro h1
   have := List.append_cancel_left h1
   simpa using this
 . intro h1
   rw [h1]
theorem ok6_iff {B : List Int} : ok6 B ↔ B.getD 1 0 < 2147483648 /\ B.getD 3 0 < 2147483648 /\ B.getD 5 0 < 2147483648 /\ B.getD 6 0 < 2147483648 /\ B.getD 7 0 <= 1 := Iff.rfl
theorem dec1 {w : List Int} (h0 : w.getD 0 0 = 4353) : decR w = withK (red3 (w.take 18)) 1 := by
 have e : withK (red3 (w.take 18)) 1 = ⟨1, (w.take 18).getD 1 0, ((w.take 18).drop 2).take 16, 0, 0, 0, 0, 0, false⟩ := rfl
 have e2 : ((w.take 18).drop 2).take 16 = (w.drop 2).take 16 := by
   rw [List.drop_take, List.take_take]
   rfl
 rw [e, getD_take (by decide), e2]
 unfold decR
 rw [if_pos h0]
theorem dec2 {w : List Int} (h0 : w.getD 0 0 ≠ 4353) : decR w = withK (red6 (w.take 8)) 2 := by
 have e : withK (red6 (w.take 8)) 2 = ⟨2, (w.take 8).getD 6 0, ws0, (w.take 8).getD 1 0, (w.take 8).getD 3 0, (w.take 8).getD 2 0, (w.take 8).getD 4 0, (w.take 8).getD 5 0, decide ((w.take 8).getD 7 0 = 1)⟩ := rfl
 rw [e, getD_take (by decide), getD_take (by decide), getD_take (by decide), getD_take (by decide), getD_take (by decide), getD_take (by decide), getD_take (by decide)]
 unfold decR
 rw [if_neg h0]
theorem jof_pc {f : Frm} {y : Ly} (hy : LyT y) (w : List Int) (rest : List AV) (s : Nat) (tk : Tk) (htk : tk = .ro ∨ (∃ g, tk = .own g) ∨ w = []) (hs : w ≠ [] -> s = 1) (ht0 : tk.hf = true) (hr : hfL rest = true) (hw : ∀ x ∈ w, U64 x) (hl : w.length <= 1000) :
   (cbL tab).pc 10 [lyV f y, .sl s w.length (encs u64A w ++ rest) tk] = some (.plain (outV (outJ f y w))) := by
 by_cases hok : okY f y
 case neg => exact jof_1 hy w rest s tk hs ht0 hr hw hl (.inl hok)
 by_cases h64 : w.length = 64
 case neg => exact jof_1 hy w rest s tk hs ht0 hr hw hl (.inr (.inl ⟨hok, h64⟩))
 have hne : w ≠ [] := fun h => by rw [h] at h64; cases h64
 obtain rfl := hs hne
 have htk2 : tk = .ro ∨ ∃ g, tk = .own g := by
   rcases htk with h | h | h
   . exact .inl h
   . exact .inr h
   . exact absurd h hne
 by_cases hz : w.getD 0 0 = 0
 . exact jof_1 hy w rest 1 tk hs ht0 hr hw hl (.inr (.inr (.inl ⟨hok, h64, hz⟩)))
 have hfi := hok.1.2.2.2.1
 have hfr := hok.1.2.2.2.2.2.2.1
 by_cases k1 : w.getD 0 0 = 4353
 . have mw : manyW w = 18 := if_pos k1
   have bl : (w.take 18).length = 18 := by rw [List.length_take]; omega
   have bw : ∀ x ∈ w.take 18, U64 x := fun x hx => hw x (List.mem_of_mem_take hx)
   have u1 := getD_u bw 1
   refine jof_2 hy hok w rest tk htk2 ht0 hr hw h64 1 17 18 0 49 51 52 4353 k1 (by decide) (by decide) (.inl rfl) (by decide) (by decide) (by decide) jfind1 (fun H => pcx_ev rfl (by kernel_rfl) H)
     (ok3 (w.take 18)) (red3 (w.take 18)) (fun nx h0 => take3 nx h0 bl bw) (fun H => pcx_none rfl (pc_none (fi := c52) rfl rfl)) rfl ?_ ?_ (dec1 k1)
   . intro ho
     have ho : (w.take 18).getD 1 0 < 2147483648 := ho
     have i0 := u1.1
     exact ⟨lo1, hi1, by show _ <= (w.take 18).getD 1 0; omega, by show (w.take 18).getD 1 0 < _; omega, by show (((w.take 18).drop 2).take 16).length = 16; rw [List.length_take, List.length_drop, bl]; rfl,
       fun x hx => bw x (List.mem_of_mem_drop (List.mem_of_mem_take hx)), lo0, hi0, lo0, hi0, u0, u0, lo0, hi0⟩
   . unfold goodW
     rw [mw, seal_iff (by omega), dec1 k1]
     constructor
     . rintro ⟨_, b, c⟩
       have := b.1.2
       exact ⟨by show (w.take 18).getD 1 0 < _; have e : (withK (red3 (w.take 18)) 1).i = (w.take 18).getD 1 0 := rfl; rw [e] at this; omega, b, c⟩
     . rintro ⟨_, b, c⟩
       exact ⟨.inl k1, b, c⟩
 by_cases k2 : w.getD 0 0 = 1794
 . have mw : manyW w = 8 := if_neg k1
   have bl : (w.take 8).length = 8 := by rw [List.length_take]; omega
   have bw : ∀ x ∈ w.take 8, U64 x := fun x hx => hw x (List.mem_of_mem_take hx)
   have u1 := getD_u bw 1
   have u3 := getD_u bw 3
   have u5 := getD_u bw 5
   have u6 := getD_u bw 6
   have e7 : (w.take 8).getD 7 0 = w.getD 7 0 := getD_take (by decide)
   refine jof_2 hy hok w rest tk htk2 ht0 hr hw h64 2 7 8 1 53 55 56 1794 k2 (by decide) (by decide) (.inr rfl) (by decide) (by decide) (by decide) jfind2 (fun H => pcx_ev rfl (by kernel_rfl) H)
     (ok6 (w.take 8)) (red6 (w.take 8)) (fun nx h0 => take6 nx h0 bl bw) (fun H => pcx_none rfl (pc_none (fi := c56) rfl rfl)) rfl ?_ ?_ (dec2 k1)
   . intro ho
     obtain ⟨o1, o3, o5, o6, o7⟩ := ok6_iff.1 ho
     have p1 := u1.1
     have p3 := u3.1
     have p5 := u5.1
     have p6 := u6.1
     exact ⟨lo2, hi2, by show _ <= (w.take 8).getD 6 0; omega, by show (w.take 8).getD 6 0 < _; omega, rfl, fun x hx => by have := (List.mem_replicate.1 hx).2; subst this; exact ⟨by decide, by decide⟩,
       by show _ <= (w.take 8).getD 1 0; omega, by show (w.take 8).getD 1 0 < _; omega, by show _ <= (w.take 8).getD 3 0; omega, by show (w.take 8).getD 3 0 < _; omega, getD_u bw 2, getD_u bw 4, by show _ <= (w.take 8).getD 5 0; omega, by show (w.take 8).getD 5 0 < _; omega⟩
   . unfold goodW
     rw [mw, seal_iff (by omega), dec2 k1]
     constructor
     . rintro ⟨a, b, c⟩
       have hi := b.1.2
       have hb := (mayB_2 (f := f) (r := withK (red6 (w.take 8)) 2) rfl).1 b.2
       have e6 : (withK (red6 (w.take 8)) 2).i = (w.take 8).getD 6 0 := rfl
       have e1 : (withK (red6 (w.take 8)) 2).fr = (w.take 8).getD 1 0 := rfl
       have e3 : (withK (red6 (w.take 8)) 2).to = (w.take 8).getD 3 0 := rfl
       have e5 : (withK (red6 (w.take 8)) 2).rc = (w.take 8).getD 5 0 := rfl
       rw [e6] at hi
       rw [e1, e3, e5] at hb
       have a7 : w.getD 7 0 <= 1 := by
         rcases a with a | a
         . exact absurd a k1
         . exact a.2
       exact ⟨ok6_iff.2 ⟨by omega, by omega, by omega, by omega, by omega⟩, b, c⟩
     . rintro ⟨o, b, c⟩
       have := (ok6_iff.1 o).2.2.2.2
       exact ⟨.inr ⟨k2, by omega⟩, b, c⟩
 exact jof_1 hy w rest 1 tk hs ht0 hr hw hl (.inr (.inr (.inr ⟨hok, h64, hz, k1, k2⟩)))
theorem scalU (l : List Int) : (encs u64A l).all (·.scal) = true := by
 induction l with
 | nil => rfl
 | cons x r ih => rw [encs_cons, List.all_append, ih]; rfl
theorem bare_out (x : Redo × Bool × Int) : (outV x).bare = true := by
 have h : (redA x.1).all (·.scal) = true := by
   have e : redA x.1 = [.int .i64 x.1.k, .int .i64 x.1.i] ++ (encs u64A x.1.ws ++ [.int .i64 x.1.fr, .int .i64 x.1.to, .int .u64 x.1.fk, .int .u64 x.1.tk, .int .i64 x.1.rc, .bool x.1.dir]) := rfl
   rw [e, List.all_append, List.all_append, scalU]
   rfl
 show ((redA x.1).all (·.scal) && _) = true
 rw [h]
 rfl
theorem jof_px' {f : Frm} {y : Ly} (hy : LyT y) (w : List Int) (rest : List AV) (s : Nat) (tk : Tk) (htk : tk = .ro ∨ (∃ g, tk = .own g) ∨ w = []) (hs : w ≠ [] -> s = 1) (ht0 : tk.hf = true) (hr : hfL rest = true) (hw : ∀ x ∈ w, U64 x) (hl : w.length <= 1000) (H : Heap) (v : AV) (hv : lendK H 4 v = .sl s w.length (encs u64A w ++ rest) tk) :
   pcx (cbL tab) 10 [lyV f y, v] H = some (.plain (outV (outJ f y w))) :=
 pcx_L rfl (by rw [List.map_cons, List.map_cons, List.map_nil, hv]; rfl) (jof_pc hy w rest s tk htk hs ht0 hr hw hl) (bare_out _)
def partsL : List AV := [.int .i64 1, .fn 139 [], .fn 140 [], .int .i64 64, .int .i64 0, .int .i64 2, .fn 141 [], .fn 142 [], .int .i64 64, .int .i64 0, .int .i64 3, .fn 143 [], .fn 144 [], .int .i64 16, .int .i64 1,
 .int .i64 4, .fn 145 [], .fn 146 [], .int .i64 16, .int .i64 1, .int .i64 5, .fn 147 [], .fn 140 [], .int .i64 64, .int .i64 0, .int .i64 6, .fn 148 [], .fn 149 [], .int .i64 64, .int .i64 (-1)]
theorem lparts_px (H : Heap) : pcx (cbL tab) 126 [] H = some (.plain (.sl 5 6 partsL .ro)) := by
 refine pcx_N rfl (pc_wp (fi := c126) rfl rfl (by simp [c126]) (by decide) ?_)
 unfold c126 partsL
 have e : (-(0 + 1) : Int) = -1 := rfl
 simp (disch := omega) only [wk, tupled, ↓reduceIte, reduceEqDiff, reduceEq, reduceAdd, reduceCtorEq, e, purify, unownT, lend, unown, AV.hf, hfL, Tk.hf]
theorem lp2_px (f : Frm) (y : Ly) (H : Heap) : pcx (cbL tab) 141 [lyV f y] H = some (.plain (.int .i64 1)) := by
 refine pcx_N rfl (pc_wp (fi := c141) rfl rfl (by simp [c141]) (by decide) ?_)
 unfold c141
 rw [List.map_cons, List.map_nil, lend_lyV]
 unfold lyV lyA frmA
 simp only [List.cons_append, List.nil_append]
 simp (disch := omega) only [wk, tupled, ↓reduceIte, reduceEqDiff, reduceEq, reduceAdd, reduceCtorEq, purify, unownT, lend, unown, AV.hf, hfL, Tk.hf]
theorem lp3_px (f : Frm) (y : Ly) (H : Heap) : pcx (cbL tab) 142 [lyV f y] H = some (.plain (.int .i64 8)) := by
 refine pcx_N rfl (pc_wp (fi := c142) rfl rfl (by simp [c142]) (by decide) ?_)
 unfold c142
 rw [List.map_cons, List.map_nil, lend_lyV]
 unfold lyV lyA frmA
 simp only [List.cons_append, List.nil_append]
 simp (disch := omega) only [wk, tupled, ↓reduceIte, reduceEqDiff, reduceEq, reduceAdd, reduceCtorEq, purify, unownT, lend, unown, AV.hf, hfL, Tk.hf]
theorem lat_px (f : Frm) (y : Ly) (n : Int) (h0 : 0 <= n) (h7 : n <= 7) (H : Heap) : pcx (cbL tab) 128 [.agg [.int .i64 2, .fn 141 [], .fn 142 [], .int .i64 64, .int .i64 0], lyV f y, .int .i64 n] H = some (.plain (.int .i64 (64 + n * 64))) := by
 have l2 := fun H => lp2_px f y H
 refine pcx_N rfl (pc_wp (fi := c128) rfl rfl (by simp [c128]) (by decide) ?_)
 unfold c128
 have e : lend (.agg [.int .i64 2, .fn 141 [], .fn 142 [], .int .i64 64, .int .i64 0]) = .agg [.int .i64 2, .fn 141 [], .fn 142 [], .int .i64 64, .int .i64 0] := rfl
 rw [List.map_cons, List.map_cons, List.map_cons, List.map_nil, e, lend_lyV, lend_int]
 unfold lyV lyA frmA at *
 simp only [List.cons_append, List.nil_append] at l2 ⊢
 have e1 : (1 : Int) * 64 = 64 := rfl
 simp (disch := omega) only [wk, tupled, ↓reduceIte, reduceEqDiff, reduceEq, reduceAdd, reduceCtorEq, l2, e1, purify, unownT, lend, unown, AV.hf, hfL, Tk.hf]
def placeJ (f : Frm) (y : Ly) (n : Int) : Int × Int := if okY f y then (if 0 <= n /\ n <= 7 then (64 + n * 64, 0) else (0, 4)) else (0, 2)
theorem lplace_px (f : Frm) (y : Ly) (n : Int) (H : Heap) : pcx (cbL tab) 83 [lyV f y, .int .i64 2, .int .i64 n] H = some (.plain (.tup [.int .i64 (placeJ f y n).1, .int .i64 (placeJ f y n).2])) := by
 have lr : ∀ H, pcx (cbL tab) 66 [lyV f y] H = some (.plain (.bool (decide (okY f y)))) := fun H => lright_all f y.k0 y.k1 y.c y.d y.e y.g H
 have l3 := fun H => lp3_px f y H
 have pp := fun H => lparts_px H
 have ip := fun H => lin_px n 0 7 H
 refine pcx_N rfl (pc_wp (fi := c83) rfl rfl (by simp [c83]) (by decide) ?_)
 unfold c83
 rw [List.map_cons, List.map_cons, List.map_cons, List.map_nil, lend_lyV, lend_int, lend_int]
 unfold placeJ
 by_cases h : okY f y
 case neg =>
   rw [decide_eq_false h] at lr
   rw [if_neg h]
   unfold lyV lyA frmA at *
   simp only [List.cons_append, List.nil_append] at lr ⊢
   clear h
   simp (disch := omega) only [wk, tupled, ↓reduceIte, reduceEqDiff, reduceEq, reduceAdd, reduceCtorEq, lr, purify, unownT, lend, unown, AV.hf, hfL, Tk.hf]
 rw [decide_eq_true h] at lr
 rw [if_pos h]
 have at7 := fun (a : 0 <= n) (b : n <= 7) H => lat_px f y n a b H
 unfold lyV lyA frmA at *
 unfold partsL at pp
 simp only [List.cons_append, List.nil_append] at lr l3 at7 ⊢
 have i6 : ((6 : Nat) : Int) = 6 := rfl
 clear h
 simp (disch := omega) only [wk, tupled, ↓reduceIte, reduceEqDiff, reduceEq, reduceAdd, reduceCtorEq, lr, pp, i6]
 rw [ret_loop]
 simp (disch := omega) only [wk, tupled, ↓reduceIte, reduceEqDiff, reduceEq, reduceAdd, reduceCtorEq, i6, Int.reduceToNat, Int.reduceAdd, Int.reduceSub, Int.reduceMul, Int.reduceNeg, Nat.reduceSub, Nat.reduceDiv, lr]
 refine ret_again (by decide) (.inl rfl) ?_
 rw [ret_loop]
 by_cases c : 0 <= n /\ n <= 7
 . rw [if_pos c]
   rw [decide_eq_true c] at ip
   have a7 := fun H => at7 c.1 c.2 H
   simp (disch := omega) only [wk, tupled, ↓reduceIte, reduceEqDiff, reduceEq, reduceAdd, reduceCtorEq, i6, Int.reduceToNat, Int.reduceAdd, Int.reduceSub, Int.reduceMul, Int.reduceNeg, Nat.reduceSub, Nat.reduceDiv, lr, l3, ip, Int.sub_zero, a7, purify, unownT, lend, unown, AV.hf, hfL, Tk.hf]
 . rw [if_neg c]
   rw [decide_eq_false c] at ip
   clear c at7
   simp (disch := omega) only [wk, tupled, ↓reduceIte, reduceEqDiff, reduceEq, reduceAdd, reduceCtorEq, i6, Int.reduceToNat, Int.reduceAdd, Int.reduceSub, Int.reduceMul, Int.reduceNeg, Nat.reduceSub, Nat.reduceDiv, lr, l3, ip]
   refine ret_again (by decide) (.inl rfl) ?_
   rw [ret_loop]
   simp (disch := omega) only [wk, tupled, ↓reduceIte, reduceEqDiff, reduceEq, reduceAdd, reduceCtorEq, i6, Int.reduceToNat, Int.reduceAdd, Int.reduceSub, Int.reduceMul, Int.reduceNeg, Nat.reduceSub, Nat.reduceDiv]
   refine ret_again (by decide) (.inl rfl) ?_
   rw [ret_loop]
   simp (disch := omega) only [wk, tupled, ↓reduceIte, reduceEqDiff, reduceEq, reduceAdd, reduceCtorEq, i6, Int.reduceToNat, Int.reduceAdd, Int.reduceSub, Int.reduceMul, Int.reduceNeg, Nat.reduceSub, Nat.reduceDiv]
   refine ret_again (by decide) (.inl rfl) ?_
   rw [ret_loop]
   simp (disch := omega) only [wk, tupled, ↓reduceIte, reduceEqDiff, reduceEq, reduceAdd, reduceCtorEq, i6, Int.reduceToNat, Int.reduceAdd, Int.reduceSub, Int.reduceMul, Int.reduceNeg, Nat.reduceSub, Nat.reduceDiv]
   refine ret_again (by decide) (.inl rfl) ?_
   rw [ret_loop]
   simp (disch := omega) only [wk, tupled, ↓reduceIte, reduceEqDiff, reduceEq, reduceAdd, reduceCtorEq, i6, Int.reduceToNat, Int.reduceAdd, Int.reduceSub, Int.reduceMul, Int.reduceNeg, Nat.reduceSub, Nat.reduceDiv]
   refine ret_again (by decide) (.inl rfl) ?_
   rw [ret_loop]
   simp (disch := omega) only [wk, tupled, ↓reduceIte, reduceEqDiff, reduceEq, reduceAdd, reduceCtorEq, i6, Int.reduceToNat, Int.reduceAdd, Int.reduceSub, Int.reduceMul, Int.reduceNeg, Nat.reduceSub, Nat.reduceDiv, purify, unownT, lend, unown, AV.hf, hfL, Tk.hf]
theorem ljour_px (f : Frm) (y : Ly) (n : Int) (H : Heap) : pcx (cbL tab) 65 [lyV f y, .int .i64 n] H = some (.plain (.tup [.int .i64 (placeJ f y n).1, .int .i64 (placeJ f y n).2])) := by
 have lp := fun H => lplace_px f y n H
 refine pcx_N rfl (pc_wp (fi := c65) rfl rfl (by simp [c65]) (by decide) ?_)
 unfold c65
 rw [List.map_cons, List.map_cons, List.map_nil, lend_lyV, lend_int]
 unfold lyV lyA frmA at *
 simp only [List.cons_append, List.nil_append] at lp ⊢
 simp (disch := omega) only [wk, tupled, ↓reduceIte, reduceEqDiff, reduceEq, reduceAdd, reduceCtorEq, lp, purify, unownT, lend, unown, AV.hf, hfL, Tk.hf]
def clientJ (f : Frm) (y : Ly) (n : Int) : Prop := okY f y /\ 0 <= n /\ n <= 7
instance (f : Frm) (y : Ly) (n : Int) : Decidable (clientJ f y n) := inferInstanceAs (Decidable (_ /\ _))
theorem jplace_px (f : Frm) (y : Ly) (n : Int) (H : Heap) : pcx (cbL tab) 46 [lyV f y, .int .i64 n] H = some (if clientJ f y n then .plain (.int .i64 (64 + n * 64)) else panJ 2) := by
 have lp := fun H => ljour_px f y n H
 have mt := fun H => jmust_t 2 H
 have mf := fun H => jmust_f 2 H
 have pj : ∀ H : Heap, purify (some (.pan [(.iface 35 (.int .i64 2), false)], H)) = some (panJ 2) := fun H => rfl
 unfold panJ at mf
 refine pcx_N rfl (pc_wp (fi := c46) rfl rfl (by simp [c46]) (by decide) ?_)
 unfold c46
 rw [List.map_cons, List.map_cons, List.map_nil, lend_lyV, lend_int]
 by_cases c : clientJ f y n
 . have e : placeJ f y n = (64 + n * 64, 0) := by unfold placeJ; rw [if_pos c.1, if_pos c.2]
   rw [e] at lp
   rw [if_pos c]
   clear c e
   unfold lyV lyA frmA at *
   simp only [List.cons_append, List.nil_append] at lp ⊢
   simp (disch := omega) only [wk, tupled, ↓reduceIte, reduceEqDiff, reduceEq, reduceAdd, reduceCtorEq, lp, mt, purify, unownT, lend, unown, AV.hf, hfL, Tk.hf]
 . have e : ∃ x, placeJ f y n = (0, x) /\ ¬ x = 0 := by
     unfold placeJ
     by_cases h : okY f y
     . rw [if_pos h, if_neg (fun h2 => c ⟨h, h2⟩)]; exact ⟨4, rfl, by decide⟩
     . rw [if_neg h]; exact ⟨2, rfl, by decide⟩
   obtain ⟨x, e, hx⟩ := e
   rw [e] at lp
   rw [if_neg c]
   clear c e
   unfold lyV lyA frmA at *
   simp only [List.cons_append, List.nil_append] at lp ⊢
   simp (disch := omega) only [wk, tupled, ↓reduceIte, reduceEqDiff, reduceEq, reduceAdd, reduceCtorEq, lp, hx, mf, pj]
def strikeJ (f : Frm) (y : Ly) (n : Int) : List (Int × Int) × Int := if clientJ f y n then ([(64 + n * 64, 0)], 0) else ([], 2)
def putsV (x : List (Int × Int) × Int) : AV := .tup [slvR 2 putA x.1, .int .i64 x.2]
theorem jclear3 (o : Nat) (x : AV) (H : Heap) (hx : H[o]? = some (.cells [x])) : enterA (cbL tab) 47 [.ptr o 0] H = some (.ret (.tup []), H.set o (.cells [.sl 0 0 [] .z])) := by
 have : ∃ q H', (cbL tab).ic 47 [.ptr o 0] H = some (q, H') /\ q = .ret (.tup []) /\ H' = H.set o (.cells [.sl 0 0 [] .z]) := by
   refine ic_wp (fi := c47) rfl rfl (by simp [c47]) (by decide) ?_
   unfold c47
   simp (disch := omega) only [wk, tupled, ↓reduceIte, reduceEqDiff, reduceEq, reduceAdd, reduceCtorEq, hx, List.append_nil]
 obtain ⟨q, H', h, rfl, rfl⟩ := this
 exact enterA_ic rfl (pc_none (fi := c47) rfl rfl) h
theorem jclear4 (o : Nat) (x : AV) (H : Heap) (hx : H[o]? = some (.cells [x])) : enterA (cbL tab) 45 [.ptr o 0] H = some (.ret (.tup []), H.set o (.cells [.sl 0 0 [] .z])) := by
 have : ∃ q H', (cbL tab).ic 45 [.ptr o 0] H = some (q, H') /\ q = .ret (.tup []) /\ H' = H.set o (.cells [.sl 0 0 [] .z]) := by
   refine ic_wp (fi := c45) rfl rfl (by simp [c45]) (by decide) ?_
   unfold c45
   simp (disch := omega) only [wk, tupled, ↓reduceIte, reduceEqDiff, reduceEq, reduceAdd, reduceCtorEq, hx, List.append_nil]
 obtain ⟨q, H', h, rfl, rfl⟩ := this
 exact enterA_ic rfl (pc_none (fi := c45) rfl rfl) h
theorem jstrike_px (f : Frm) (y : Ly) (n : Int) (H : Heap) : pcx (cbL tab) 20 [lyV f y, .int .i64 n] H = some (.plain (putsV (strikeJ f y n))) := by
 have pp := fun H => jplace_px f y n H
 refine pcx_N rfl (pc_wp (fi := c20) rfl rfl (by simp [c20]) (by decide) ?_)
 unfold c20
 rw [List.map_cons, List.map_cons, List.map_nil, lend_lyV, lend_int]
 unfold strikeJ putsV
 by_cases c : clientJ f y n
 . rw [if_pos c] at pp ⊢
   have e : slvR 2 putA [(64 + n * 64, (0 : Int))] = .sl 2 1 [.int .i64 (64 + n * 64), .int .u64 0] .ro := rfl
   dsimp only
   rw [e]
   clear c
   unfold lyV lyA frmA at *
   simp only [List.cons_append, List.nil_append] at pp ⊢
   simp (disch := omega) only [wk, tupled, ↓reduceIte, reduceEqDiff, reduceEq, reduceAdd, reduceCtorEq, pp]
   rw [ends_left_ret (jcaught_ret _ _ _ _)]
   simp (disch := omega) only [wk, tupled, ↓reduceIte, reduceEqDiff, reduceEq, reduceAdd, reduceCtorEq, purify, unownT, lend, unown, AV.hf, hfL, Tk.hf]
 . rw [if_neg c] at pp ⊢
   have e : slvR 2 putA ([] : List (Int × Int)) = .sl 0 0 [] .z := rfl
   dsimp only
   rw [e]
   unfold panJ at pp
   clear c
   unfold lyV lyA frmA at *
   simp only [List.cons_append, List.nil_append] at pp ⊢
   simp (disch := omega) only [wk, tupled, ↓reduceIte, reduceEqDiff, reduceEq, reduceAdd, reduceCtorEq, pp]
   rw [ends_left_pan (jcaught_pan 2 _ _ _ _ _ _ _ (jclear3 1 _ _ rfl) rfl)]
   simp (disch := omega) only [wk, tupled, ↓reduceIte, reduceEqDiff, reduceEq, reduceAdd, reduceCtorEq, purify, unownT, lend, unown, AV.hf, hfL, Tk.hf]
end Go.Proofs.YtobhofmicgmjfaaGreat
namespace Go.Proofs.YtobhofmicgmjfaaGreat
open Go Go.Am Go.Rec
end Go.Proofs.YtobhofmicgmjfaaGreat
namespace Go.Proofs.YtobhofmicgmjfaaGreat
open Go Go.Am Go.Rec Go.Ino
def smallM (l : List Int) : Bool := l.all fun x => decide (x < 2147483648)
def stF (at' : Int) (j : Nat) : List Int -> List (Int × Int)
 | [] => []
 | x :: r => (at' + 1 + (j : Int), x) :: stF at' (j + 1) r
def storesM (at' : Int) (w : List Int) : List (Int × Int) := stF at' 0 (w.drop 1) ++ [(at', w.headD 0)]
theorem stF_len (at' : Int) (j : Nat) (l : List Int) : (stF at' j l).length = l.length := by
 induction l generalizing j with
 | nil => rfl
 | cons x r ih => rw [stF, List.length_cons, ih, List.length_cons]
theorem stF_snoc (at' : Int) (j : Nat) (l : List Int) (x : Int) : stF at' j (l ++ [x]) = stF at' j l ++ [(at' + 1 + ((j + l.length : Nat) : Int), x)] := by
 induction l generalizing j with
 | nil => simp [stF]
 | cons y r ih =>
   rw [List.cons_append, stF, ih, stF, List.cons_append, List.length_cons]
   have : j + 1 + r.length = j + (r.length + 1) := by omega
   rw [this]
theorem hset_ne {H : Heap} {i j : Nat} {o : AObj} (h : i ≠ j) : (H.set i o)[j]? = H[j]? := List.getElem?_set_ne h
theorem hset_eq {H : Heap} {i : Nat} {o q : AObj} (h : H[i]? = some q) : (H.set i o)[i]? = some o := by
 rw [List.getElem?_set_self (List.getElem?_eq_some_iff.1 h).1]
def storesJ (f : Frm) (y : Ly) (n : Int) (r : Redo) : List (Int × Int) × Int :=
 if clientJ f y n then (if mayR f r then (storesM (64 + n * 64) (wordsR r), 0) else ([], 310)) else ([], 2)
theorem jstores_px {f : Frm} {y : Ly} (hy : LyT y) (n : Int) {r : Redo} (ht : RedT r) (H : Heap) : pcx (cbL tab) 18 [lyV f y, .int .i64 n, .agg (redA r)] H = some (.plain (putsV (storesJ f y n r))) := by
 have pp := fun H => jplace_px f y n H
 have wp := fun H => jwords_px (f := f) hy ht H
 have mt := fun H => jmust_t 0 H
 have mf := fun H => jmust_f 310 H
 unfold panJ at mf
 refine pcx_N rfl (pc_wp (fi := c18) rfl ?_ (by simp [c18]) (by decide) ?_)
 . simp only [pcOn, List.map_cons, List.map_nil, hfL, hf_lend_sl, hf_lend_int, hf_lend_bool, hf_lend_str, hfL_append, Bool.and_self, Bool.and_true, Bool.true_and, c18, lend_lyV, lend_redV, hf_lyV, hf_redV]
 rw [List.map_cons, List.map_cons, List.map_cons, List.map_nil, lend_lyV, lend_redV, lend_int]
 obtain ⟨w0, w1, w2, w3, w4, w5, w6, w7, w8, w9, w10, w11, w12, w13, w14, w15, hR⟩ := red_lit ht
 rw [hR] at wp ⊢
 unfold storesJ putsV
 unfold wordsJV wordsJ at wp
 unfold c18
 by_cases c : clientJ f y n
 case neg =>
   rw [if_neg c] at pp ⊢
   have e : slvR 2 putA ([] : List (Int × Int)) = .sl 0 0 [] .z := rfl
   dsimp only
   rw [e]
   unfold panJ at pp
   clear c
   unfold lyV lyA frmA at *
   simp only [List.cons_append, List.nil_append] at pp ⊢
   simp (disch := omega) only [wk, tupled, ↓reduceIte, reduceEqDiff, reduceEq, reduceAdd, reduceCtorEq, pp]
   rw [ends_left_pan (jcaught_pan 3 _ _ _ _ _ _ _ (jclear4 2 _ _ rfl) rfl)]
   simp (disch := omega) only [wk, tupled, ↓reduceIte, reduceEqDiff, reduceEq, reduceAdd, reduceCtorEq, purify, unownT, lend, unown, AV.hf, hfL, Tk.hf]
 have ck : checkJ f y r = if mayR f r then 0 else 310 := if_pos c.1
 have n0 := c.2.1
 have n7 := c.2.2
 rw [if_pos c] at pp ⊢
 by_cases hm : mayR f r
 case neg =>
   rw [if_neg hm] at ck
   rw [ck, if_neg (by decide : ¬ (310 : Int) = 0)] at wp
   have e : slvR 2 putA ([] : List (Int × Int)) = .sl 0 0 [] .z := rfl
   have e2 : slvR 1 u64A ([] : List Int) = .sl 0 0 [] .z := rfl
   rw [if_neg hm]
   dsimp only
   rw [e]
   rw [e2] at wp
   clear c hm ck
   unfold lyV lyA frmA at *
   simp only [List.cons_append, List.nil_append] at pp wp ⊢
   simp (disch := omega) only [wk, tupled, ↓reduceIte, reduceEqDiff, reduceEq, reduceAdd, reduceCtorEq, pp, wp, mf]
   rw [ends_left_pan (jcaught_pan 3 _ _ _ _ _ _ _ (jclear4 2 _ _ rfl) rfl)]
   simp (disch := omega) only [wk, tupled, ↓reduceIte, reduceEqDiff, reduceEq, reduceAdd, reduceCtorEq, purify, unownT, lend, unown, AV.hf, hfL, Tk.hf]
 rw [if_pos hm] at ck ⊢
 rw [ck, if_pos rfl] at wp
 have pl := wordsR_len ht
 have pl2 : (wordsR r).length <= 19 := by rw [pl]; split <;> omega
 obtain ⟨x0, tl, hx⟩ : ∃ x0 tl, wordsR r = x0 :: tl := ⟨headR r, _, rfl⟩
 rw [hx] at wp pl2 ⊢
 simp only [List.length_cons] at pl2
 have sv : slvR 1 u64A (x0 :: tl) = .sl 1 (tl.length + 1) (.int .u64 x0 :: encs u64A tl) .ro := rfl
 rw [sv] at wp
 have sm : storesM (64 + n * 64) (x0 :: tl) = stF (64 + n * 64) 0 tl ++ [(64 + n * 64, x0)] := rfl
 rw [sm]
 dsimp only
 have i1 : (1 : Int).toNat = 1 := rfl
 have lt := lenU tl
 have tm1 : tl.length + 1 - 1 = tl.length := rfl
 have b1 : 1 <= tl.length + 1 := by omega
 have htl : tl ≠ [] := by
   intro e
   rw [hx, e] at pl
   split at pl <;> cases pl
 clear c hm ck pl sv sm hx
 unfold lyV lyA frmA at *
 simp only [List.cons_append, List.nil_append] at pp wp ⊢
 simp (disch := omega) only [wk, tupled, ↓reduceIte, reduceEqDiff, reduceEq, reduceAdd, reduceCtorEq, pp, wp, mt, i1, lt, tm1, b1]
 generalize hat : 64 + n * 64 = at' at *
 have at0 : 0 <= at' := by omega
 have at1 : at' <= 600 := by omega
 clear pp wp hR
 refine loop_ind (fun (x : List Int × List Int) E df H1 => tl = x.1 ++ x.2 /\ E 6 = .ptr 2 0 /\ E 7 = .ptr 3 0 /\ E 8 = .int .i64 at' /\ E 9 = .sl 1 (tl.length + 1) (.int .u64 x0 :: encs u64A tl) .ro /\ E 28 = .sl 1 tl.length (encs u64A tl) .ro /\ E 29 = .int .i64 (tl.length : Nat) /\ E 30 = .int .i64 (x.1.length : Nat) ∧
     df = [.call 25 [.ptr 3 0, .fn 45 [.ptr 2 0]]] /\ H1[3]? = some (.cells [.int .i64 0]) /\ ∃ v, H1[2]? = some (.cells [v]) /\ Own H1 2 v x.1.length (encs putA (stF at' 0 x.1)) /\ (∀ a b c, v ≠ .sl a b c .e))
   (fun x => x.2.length) ([], tl) (by decide) (.inl rfl) ⟨rfl, rfl, rfl, rfl, rfl, rfl, rfl, rfl, rfl, rfl, _, rfl, .inl ⟨.inl rfl, rfl, rfl⟩, by intro a b c h; cases h⟩ ?_
 intro ⟨pre, suf⟩ E df H1 ih hP
 obtain ⟨a1, E6, E7, E8, E9, E28, E29, E30, hdf, h3, v, h2, ho, hne⟩ := hP
 dsimp only at a1 E30 ho
 subst hdf
 have la : tl.length = pre.length + suf.length := by rw [a1, List.length_append]
 cases suf with
 | nil =>
   rw [List.append_nil] at a1
   subst a1
   have m1 : ¬ (tl.length : Int) < (tl.length : Int) := by omega
   simp (disch := omega) only [wk, tupled, ↓reduceIte, reduceEqDiff, reduceEq, reduceAdd, reduceCtorEq, E6, E7, E8, E9, E28, E29, E30, m1, h2, Int.toNat_zero]
   refine runX_app ho (by omega) (by omega) (by omega) (by omega) rfl rfl (fun H2 q1 q2 q3 => ?_)
   have g2 := q2.cells ho rfl h2 (by intro s e; cases e)
   have g3 := q2.cells ho rfl h3 (by intro s e; cases e)
   have k3 : ∀ o, (H2.set 2 o)[3]? = some (.cells [.int .i64 0]) := fun o => by rw [hset_ne (by omega)]; exact g3
   have k2 : ∀ o p, ((H2.set 2 o).set 3 p)[2]? = some o := fun o p => by rw [hset_ne (by omega)]; exact hset_eq g2
   have k4 : ∀ o p, ((H2.set 2 o).set 3 p)[3]? = some p := fun o p => hset_eq (k3 o)
   simp (disch := omega) only [wk, tupled, ↓reduceIte, reduceEqDiff, reduceEq, reduceAdd, reduceCtorEq, E6, E7, g2, k3, List.append_nil]
   rw [ends_left_ret (jcaught_ret _ _ _ _)]
   simp (disch := omega) only [wk, tupled, ↓reduceIte, reduceEqDiff, reduceEq, reduceAdd, reduceCtorEq, E6, E7, k2, k4]
   have e1 : encs putA (stF at' 0 tl ++ [(at', x0)]) = encs putA (stF at' 0 tl) ++ [.int .i64 at', .int .u64 x0] := by rw [encs_append]; rfl
   have hu : unown (.sl 2 (tl.length + 1) (encs putA (stF at' 0 tl) ++ [.int .i64 at', .int .u64 x0]) (.own H1.length)) = slvR 2 putA (stF at' 0 tl ++ [(at', x0)]) := by
     rw [<- e1]
     have hne : (stF at' 0 tl ++ [(at', x0)]).isEmpty = false := by cases stF at' 0 tl <;> rfl
     unfold slvR
     rw [hne, List.length_append, stF_len]
     rfl
   have hw : hfL [slvR 2 putA (stF at' 0 tl ++ [(at', x0)]), .int .i64 0] = true := by simp [AV.hf, hfL, slvR_hf (f := putA) (fun _ => rfl)]
   have hp : ∀ a b c d H', purify (some (.ret (.tup [.sl a b c d, .int .i64 0]), H')) = if (unownT (.tup [.sl a b c d, .int .i64 0])).hf then some (.plain (unownT (.tup [.sl a b c d, .int .i64 0]))) else none := fun _ _ _ _ _ => rfl
   rw [hp]
   have he : ∀ k, unownT (.tup [.sl 2 k (encs putA (stF at' 0 tl) ++ [.int .i64 at', .int .u64 x0]) (.own H1.length), .int .i64 0]) = .tup [unown (.sl 2 k (encs putA (stF at' 0 tl) ++ [.int .i64 at', .int .u64 x0]) (.own H1.length)), .int .i64 0] := fun _ => rfl
   rw [he, hu, if_pos (by exact hw)]
 | cons x r =>
   simp only [List.length_cons] at la
   have m1 : (pre.length : Int) < (tl.length : Int) := by omega
   have d := wdrop pre x r []
   rw [<- a1, List.append_nil, List.append_nil] at d
   simp (disch := omega) only [wk, tupled, ↓reduceIte, reduceEqDiff, reduceEq, reduceAdd, reduceCtorEq, E6, E7, E8, E9, E28, E29, E30, m1, h2, d]
   refine runX_app ho (by omega) (by omega) (by omega) (by omega) rfl rfl (fun H2 q1 q2 q3 => ?_)
   have g2 := q2.cells ho rfl h2 (by intro s e; cases e)
   have g3 := q2.cells ho rfl h3 (by intro s e; cases e)
   simp (disch := omega) only [wk, tupled, ↓reduceIte, reduceEqDiff, reduceEq, reduceAdd, reduceCtorEq, E6, E7, E30, g2, List.append_nil]
   refine ih (pre ++ [x], r) _ _ _ (by simp) ?_
   have e1 : encs putA (stF at' 0 (pre ++ [x])) = encs putA (stF at' 0 pre) ++ [.int .i64 (at' + 1 + (pre.length : Int)), .int .u64 x] := by rw [stF_snoc, encs_append, Nat.zero_add]; rfl
   refine ⟨by simp [a1], by simp only [en, ↓reduceIte, reduceEqDiff, E6], by simp only [en, ↓reduceIte, reduceEqDiff, E7], by simp only [en, ↓reduceIte, reduceEqDiff, E8], by simp only [en, ↓reduceIte, reduceEqDiff, E9], by simp only [en, ↓reduceIte, reduceEqDiff, E28], by simp only [en, ↓reduceIte, reduceEqDiff, E29], by simp only [en, ↓reduceIte, reduceEqDiff], rfl, by rw [hset_ne (by omega)]; exact g3, _, hset_eq g2, ?_, by intro a b c h; cases h⟩
   rw [e1, List.length_append]
   exact q1.set g2 (by intro s e; cases e)
theorem samePuts_pc (l m : List (Int × Int)) (s1 s2 : Nat) (t1 t2 : Tk) (hz1 : l ≠ [] -> s1 = 2) (hz2 : m ≠ [] -> s2 = 2) (hl : (l.length : Int) < 9223372036854775807) : (cbL tab).pc 21 [.sl s1 l.length (encs putA l) t1, .sl s2 m.length (encs putA m) t2] = some (.plain (.bool (decide (l = m)))) := by
 obtain ⟨u1, e1, f1⟩ := lend_sl s1 l.length (encs putA l) t1
 obtain ⟨u2, e2, f2⟩ := lend_sl s2 m.length (encs putA m) t2
 refine pc_wp (fi := c21) rfl ?_ (by simp [c21]) (by decide) ?_
 . simp only [pcOn, List.map_cons, List.map_nil, hfL, hf_lend_sl, hf_lend_int, hf_lend_bool, hf_lend_str, hfL_append, Bool.and_self, Bool.and_true, Bool.true_and, c21, hf_putA]
 unfold c21
 rw [List.map_cons, List.map_cons, List.map_nil, e1, e2]
 by_cases h : (l.length : Int) = m.length
 case neg =>
   have h' : ¬ l = m := fun e => h (by rw [e])
   simp (disch := omega) only [wk, tupled, ↓reduceIte, reduceEqDiff, reduceEq, reduceAdd, reduceCtorEq, h, purify, unownT, lend, unown, AV.hf, h']
 simp (disch := omega) only [wk, tupled, ↓reduceIte, reduceEqDiff, reduceEq, reduceAdd, reduceCtorEq]
 refine loop_ind (fun (x : List (Int × Int) × List (Int × Int) × List (Int × Int)) E df H => l = x.1 ++ x.2.1 /\ m = x.1 ++ x.2.2 /\ E 0 = .sl s1 l.length (encs putA l) u1 /\ E 1 = .sl s2 m.length (encs putA m) u2 /\ E 5 = .int .i64 (x.1.length : Nat) /\ df = [] /\ H = [])
   (fun x => x.2.1.length) ([], l, m) (by decide) (.inl rfl) ⟨rfl, rfl, rfl, rfl, rfl, rfl, rfl⟩ ?_
 intro ⟨pre, q1, q2⟩ E df H ih hP
 obtain ⟨a1, a2, E0, E1, E5, hdf, hH⟩ := hP
 dsimp only at a1 a2 E5
 subst hdf hH a1 a2
 simp only [List.length_append] at h hl
 cases q1 with
 | nil =>
   cases q2 with
   | nil => simp (disch := omega) only [wk, tupled, ↓reduceIte, reduceEqDiff, reduceEq, reduceAdd, reduceCtorEq, E0, E1, E5, purify, unownT, lend, unown, AV.hf]
   | cons _ _ => exfalso; simp only [List.length_nil, List.length_cons] at h; omega
 | cons x r1 =>
   cases q2 with
   | nil => exfalso; simp only [List.length_nil, List.length_cons] at h; omega
   | cons y r2 =>
     simp only [List.length_cons] at h hl
     obtain rfl := hz1 (by simp)
     obtain rfl := hz2 (by simp)
     obtain ⟨x1, x2⟩ := x
     obtain ⟨y1, y2⟩ := y
     simp (disch := omega) only [wk, tupled, ↓reduceIte, reduceEqDiff, reduceEq, reduceAdd, reduceCtorEq, E0, E1, E5, putA]
     by_cases hxy : x1 = y1 /\ x2 = y2
     . obtain ⟨rfl, rfl⟩ := hxy
       simp (disch := omega) only [wk, tupled, ↓reduceIte, reduceEqDiff, reduceEq, reduceAdd, reduceCtorEq, E0, E1, E5]
       refine ih (pre ++ [(x1, x2)], r1, r2) _ _ _ (by simp) ?_
       exact ⟨by simp, by simp, by simp only [en, ↓reduceIte, reduceEqDiff, E0], by simp only [en, ↓reduceIte, reduceEqDiff, E1], by simp only [en, ↓reduceIte, reduceEqDiff], rfl, rfl⟩
     . have h' : ¬ (pre ++ (x1, x2) :: r1 = pre ++ (y1, y2) :: r2) := by
         intro e
         simp only [List.append_cancel_left_eq, List.cons.injEq, Prod.mk.injEq] at e
         exact hxy e.1
       simp (disch := omega) only [wk, tupled, ↓reduceIte, reduceEqDiff, reduceEq, reduceAdd, reduceCtorEq, hxy, purify, unownT, lend, unown, AV.hf, h']
theorem jnum_px (n : Int) (H : Heap) : pcx (cbL tab) 12 [.int .i64 n] H = some (.plain (.int .i64 n)) := by
 refine pcx_N rfl (pc_wp (fi := c12) rfl rfl (by simp [c12]) (by decide) ?_)
 unfold c12
 rw [List.map_cons, List.map_nil, lend_int]
 simp (disch := omega) only [wk, tupled, ↓reduceIte, reduceEqDiff, reduceEq, reduceAdd, reduceCtorEq, purify, unownT, lend, unown, AV.hf, hfL, Tk.hf]
def fr0 : Frm := ⟨32, 8, 16, 8⟩
def ly0 : Ly := ⟨1, 2, 9, 11, 15, 16⟩
theorem ly0_t : LyT ly0 := ⟨(⟨by decide, by decide⟩ : U64 1), (⟨by decide, by decide⟩ : U64 2)⟩
theorem home_px (H : Heap) : pcx (cbL tab) 23 [] H = some (.plain (lyV fr0 ly0)) := by
 have rp := fun H => rof_px fr0 1 2 H
 rw [if_pos (by decide)] at rp
 refine pcx_N rfl (pc_wp (fi := c23) rfl rfl (by simp [c23]) (by decide) ?_)
 unfold c23
 have e : AV.agg (layA fr0 1 2) = lyV fr0 ly0 := rfl
 rw [e] at rp
 unfold lyV lyA frmA fr0 ly0 at *
 simp only [List.cons_append, List.nil_append] at rp ⊢
 rw [List.map_nil]
 simp (disch := omega) only [wk, tupled, ↓reduceIte, reduceEqDiff, reduceEq, reduceAdd, reduceCtorEq, rp, purify, unownT, lend, unown, AV.hf, hfL, Tk.hf]
def re0 : Redo := ⟨2, 5, ws0, 1, 1, 2, 3, 4, false⟩
theorem re0_t : RedT re0 := ⟨by decide, by decide, by decide, by decide, rfl, fun x hx => by have := (List.mem_replicate.1 hx).2; subst this; exact ⟨by decide, by decide⟩, by decide, by decide, by decide, by decide, (⟨by decide, by decide⟩ : U64 2), (⟨by decide, by decide⟩ : U64 3), by decide, by decide⟩
theorem jworks_px (H : Heap) : pcx (cbL tab) 8 [] H = some (.plain (.bool true)) := by
 have hp := fun H => home_px H
 have wp := fun H => jwords_px (f := fr0) ly0_t re0_t H
 have ck : checkJ fr0 ly0 re0 = 0 := by decide
 have sp := fun H => jstrike_px fr0 ly0 2 H
 have se : strikeJ fr0 ly0 2 = ([(192, 0)], 0) := if_pos (by decide)
 rw [se] at sp
 have np := fun n H => jnum_px n H
 obtain ⟨z, hz⟩ : ∃ z : Int, z = moreM 0 (bytM (plainR re0)) := ⟨_, rfl⟩
 have we : wordsJV fr0 ly0 re0 = .tup [.sl 1 9 [.int .u64 1794, .int .u64 1, .int .u64 2, .int .u64 1, .int .u64 3, .int .u64 4, .int .u64 5, .int .u64 0, .int .u64 z] .ro, .int .i64 0] := by
   unfold wordsJV wordsJ
   rw [if_pos ck, ck]
   have : wordsR re0 = [1794, 1, 2, 1, 3, 4, 5, 0, z] := by rw [hz]; rfl
   rw [this]
   rfl
 rw [we] at wp
 have o0 : ∀ l : List Int, l.length = 64 -> l.getD 0 0 = 0 -> outJ fr0 ly0 l = (red0, false, 0) := fun l h1 h2 => by
   unfold outJ
   rw [if_pos (by decide)]
   unfold ofW
   rw [if_neg (fun h => h h1), if_pos h2]
 have o1 : ∀ l : List Int, l.length = 64 -> l.getD 0 0 = 1 -> outJ fr0 ly0 l = (red0, false, 310) := fun l h1 h2 => by
   unfold outJ
   rw [if_pos (by decide)]
   unfold ofW
   rw [if_neg (fun h => h h1), if_neg (by rw [h2]; decide), if_neg]
   rintro ⟨h, _⟩
   rw [h2] at h
   rcases h with h | ⟨h, _⟩ <;> cases h
 have er : repL 64 [AV.int .u64 0] = encs u64A (List.replicate 64 0) := rfl
 have hu : ∀ x ∈ (List.replicate 64 0 : List Int), U64 x := fun x hx => by have := (List.mem_replicate.1 hx).2; subst this; exact ⟨by decide, by decide⟩
 have hu1 : ∀ x ∈ (1 :: List.replicate 63 0 : List Int), U64 x := fun x hx => by
   rcases List.mem_cons.1 hx with rfl | hx
   . exact ⟨by decide, by decide⟩
   . have := (List.mem_replicate.1 hx).2; subst this; exact ⟨by decide, by decide⟩
 have p0 : ∀ H, pcx (cbL tab) 10 [lyV fr0 ly0, .sl 1 (List.replicate 64 0 : List Int).length (encs u64A (List.replicate 64 0) ++ []) .e] H = some (.plain (outV (outJ fr0 ly0 (List.replicate 64 0)))) := fun H =>
   pcx_L rfl (by rw [List.map_cons, List.map_cons, List.map_nil, lendK_sl]; rfl) (jof_1 (f := fr0) ly0_t (List.replicate 64 0) [] 1 .e (fun _ => rfl) rfl rfl hu (by decide) (.inr (.inr (.inl ⟨by decide, rfl, rfl⟩)))) (bare_out _)
 have p1 := fun H v hv => jof_px' (f := fr0) ly0_t (1 :: List.replicate 63 0) [] 1 .ro (.inl rfl) (fun _ => rfl) rfl rfl hu1 (by decide) H v hv
 rw [o0 _ rfl rfl] at p0
 rw [o1 _ rfl rfl] at p1
 refine pcx_N rfl (pc_wp (fi := c8) rfl rfl (by simp [c8]) (by decide) ?_)
 unfold c8
 rw [List.map_nil]
 unfold outV at p0 p1
 unfold putsV at sp
 have e1 : slvR 2 putA [((192 : Int), (0 : Int))] = .sl 2 1 [.int .i64 192, .int .u64 0] .ro := rfl
 rw [e1] at sp
 have ra : redA re0 = [.int .i64 2, .int .i64 5, .int .u64 0, .int .u64 0, .int .u64 0, .int .u64 0, .int .u64 0, .int .u64 0, .int .u64 0, .int .u64 0, .int .u64 0, .int .u64 0, .int .u64 0, .int .u64 0, .int .u64 0, .int .u64 0, .int .u64 0, .int .u64 0, .int .i64 1, .int .i64 1, .int .u64 2, .int .u64 3, .int .i64 4, .bool false] := rfl
 rw [ra] at wp
 rw [red0_lit] at p0 p1
 dsimp only at p0 p1 sp
 have q0 : (List.replicate 64 0 : List Int).length = 64 := rfl
 rw [q0, List.append_nil] at p0
 generalize hR : encs u64A (List.replicate 64 0) = R at *
 have lR : R.length = 64 := by rw [<- hR]; rfl
 have oR : allOne R = true := by rw [<- hR]; rfl
 unfold lyV lyA frmA fr0 ly0 at hp wp sp p0 p1
 simp only [List.cons_append, List.nil_append] at hp wp sp p0 p1
 have j64 : (64 : Int).toNat = 64 := rfl
 have j192 : (8 : Int).toNat = 8 := rfl
 have le0 : (0 : Int) <= 64 := by decide
 have lk : ∀ H : Heap, H[1]? = some (.cells (AV.int .u64 1 :: List.drop 1 R)) -> lendK H 4 (.msl 1 1 0 64) = .sl 1 (1 :: List.replicate 63 0 : List Int).length (encs u64A (1 :: List.replicate 63 0) ++ []) .ro := fun H h => by
   show (match H[1]? with
     | some (AObj.cells cs) => if 0 + 64 * 1 <= cs.length then AV.sl 1 64 (((cs.drop 0).take (64 * 1)).map (lendK H 3)) .ro else AV.msl 1 1 0 64
     | _ => AV.msl 1 1 0 64) = _
   rw [h, <- hR]
   rfl
 have p2 := fun z0 : AObj => p1 [z0, .cells (AV.int .u64 1 :: List.drop 1 R)] _ (lk _ rfl)
 have sm := fun H => same_px [1794, 1, 2, 1, 3, 4, 5, 0] [1794, 1, 2, 1, 3, 4, 5, 0] [.int .u64 z] [] 1 1 .ro .ro H (by decide) (by decide) (fun _ => rfl) (fun _ => rfl) rfl rfl
 have sq := fun H => pcx_N (H := H) rfl (samePuts_pc [(192, 0)] [(192, 0)] 2 2 .ro .ro (fun _ => rfl) (fun _ => rfl) (by decide))
 rw [decide_eq_true rfl] at sm sq
 have es : encs u64A ([1794, 1, 2, 1, 3, 4, 5, 0] : List Int) = [.int .u64 1794, .int .u64 1, .int .u64 2, .int .u64 1, .int .u64 3, .int .u64 4, .int .u64 5, .int .u64 0] := rfl
 have ep : encs putA [((192 : Int), (0 : Int))] = [.int .i64 192, .int .u64 0] := rfl
 rw [es] at sm
 rw [ep] at sq
 simp only [List.length_cons, List.length_nil, Nat.zero_add, List.append_nil, List.cons_append, List.nil_append, Nat.reduceAdd] at sm sq
 have rp8 : List.replicate 8 (AV.int .u64 0) = [.int .u64 0, .int .u64 0, .int .u64 0, .int .u64 0, .int .u64 0, .int .u64 0, .int .u64 0, .int .u64 0] := rfl
 have c9 : ((9 : Nat) : Int) = 9 := rfl
 simp (disch := omega) only [wk, tupled, ↓reduceIte, reduceEqDiff, reduceEq, reduceAdd, reduceCtorEq, hp, wp, p0, madeN, er, sp, np, j64, le0, lR, oR, hR, red0_lit, Int.toNat_zero, Nat.zero_add, p2, sm, sq, rp8, j192, c9, Int.reduceToNat, Int.reduceAdd, Int.reduceSub, Int.reduceMul, Int.reduceNeg, Nat.reduceSub, Nat.reduceDiv, purify, unownT, lend, unown, AV.hf, hfL, Tk.hf]
def frm0 : Frm := ⟨0, 0, 0, 0⟩
def lawF (f : Frm) : Frm := if okF f then f else frm0
def lawY (f : Frm) (b : Bool) : Ly :=
 if okF f then ⟨3, 4, 9, 9 + f.i / 4, 9 + f.i / 4 + f.r / 4 + (if b then 1 else 0), 9 + f.i / 4 + f.r / 4 + 1⟩ else ⟨0, 0, 0, 0, if b then 1 else 0, 0⟩
theorem lawY_t (f : Frm) (b : Bool) : LyT (lawY f b) := by
 unfold lawY
 split
 . exact ⟨(⟨by decide, by decide⟩ : U64 3), (⟨by decide, by decide⟩ : U64 4)⟩
 . exact ⟨(⟨by decide, by decide⟩ : U64 0), (⟨by decide, by decide⟩ : U64 0)⟩
theorem llay_px (f : Frm) (b : Bool) (H : Heap) : pcx (cbL tab) 9 [.agg (frmA f), .bool b] H = some (.plain (lyV (lawF f) (lawY f b))) := by
 have rp := fun H => rof_px f 3 4 H
 refine pcx_N rfl (pc_wp (fi := c9) rfl rfl (by simp [c9]) (by decide) ?_)
 unfold c9
 have lf : lend (.agg (frmA f)) = .agg (frmA f) := rfl
 have lb : lend (.bool b) = .bool b := rfl
 rw [List.map_cons, List.map_cons, List.map_nil, lf, lb]
 unfold lawF lawY lyV lyA
 by_cases h : okF f
 . rw [if_pos h] at rp
   rw [if_pos h, if_pos h]
   obtain ⟨_, _, h3, h4, _, h6, h7, _⟩ := h
   unfold layA frmA at *
   simp only [List.cons_append, List.nil_append] at rp ⊢
   cases b
   . simp (disch := omega) only [wk, tupled, ↓reduceIte, reduceEqDiff, reduceEq, reduceAdd, reduceCtorEq, rp, purify, unownT, lend, unown, AV.hf, hfL, Tk.hf, Int.add_zero]
   . have e : IntKind.i64.wrap (9 + f.i / 4 + f.r / 4 + 1) = 9 + f.i / 4 + f.r / 4 + 1 := wrap_i64 (by omega) (by omega)
     simp (disch := omega) only [wk, tupled, ↓reduceIte, reduceEqDiff, reduceEq, reduceAdd, reduceCtorEq, rp, purify, unownT, lend, unown, AV.hf, hfL, Tk.hf]
 . rw [if_neg h] at rp
   rw [if_neg h, if_neg h]
   unfold lyz at rp
   unfold frm0 frmA at *
   simp only [List.cons_append, List.nil_append] at rp ⊢
   cases b
   . simp (disch := omega) only [wk, tupled, ↓reduceIte, reduceEqDiff, reduceEq, reduceAdd, reduceCtorEq, rp, purify, unownT, lend, unown, AV.hf, hfL, Tk.hf]
   . simp (disch := omega) only [wk, tupled, ↓reduceIte, reduceEqDiff, reduceEq, reduceAdd, reduceCtorEq, rp, Int.reduceToNat, Int.reduceAdd, Int.reduceSub, Int.reduceMul, Int.reduceNeg, Nat.reduceSub, Nat.reduceDiv, purify, unownT, lend, unown, AV.hf, hfL, Tk.hf]
theorem okL_frm {l : List AV} (h0 : OkL [.int .i64, .int .i64, .int .i64, .int .i64] l) : ∃ f : Frm, l = frmA f := by
 obtain ⟨hl, h⟩ := h0
 match l, hl with
 | [a0, a1, a2, a3], _ =>
   have o0 := h 0 _ _ rfl rfl
   have o1 := h 1 _ _ rfl rfl
   have o2 := h 2 _ _ rfl rfl
   have o3 := h 3 _ _ rfl rfl
   cases o0 with | int _ n0 _ _ =>
   cases o1 with | int _ n1 _ _ =>
   cases o2 with | int _ n2 _ _ =>
   cases o3 with | int _ n3 _ _ =>
   exact ⟨⟨n0, n1, n2, n3⟩, rfl⟩
def i8 : List Sh := [.int .i64, .int .i64, .int .u64, .int .u64, .int .u64, .int .u64, .int .u64, .int .u64, .int .u64, .int .u64, .int .u64, .int .u64, .int .u64, .int .u64, .int .u64, .int .u64, .int .u64, .int .u64, .int .i64, .int .i64, .int .u64, .int .u64, .int .i64, .bool]
theorem okL_u : ∀ (k : Nat) (M : List Sh) (xs : List AV), OkL (List.replicate k (.int .u64) ++ M) xs -> ∃ (ws : List Int) (ys : List AV), xs = encs u64A ws ++ ys /\ ws.length = k /\ (∀ x ∈ ws, U64 x) /\ OkL M ys
 | 0, M, xs, h => ⟨[], xs, rfl, rfl, fun _ h => by simp at h, h⟩
 | k + 1, M, [], h => by have := h.1; simp only [List.length_nil, List.length_append, List.length_replicate] at this; omega
 | k + 1, M, v :: r, h => by
   obtain ⟨hl, hi⟩ := h
   have h0 := hi 0 (.int .u64) v (by simp [List.replicate_succ]) rfl
   obtain ⟨ws, ys, k1, k2, k3, k4⟩ := okL_u k M r ⟨by simpa [List.replicate_succ] using hl, fun i s x hs hx => hi (i + 1) s x (by rw [List.replicate_succ, List.cons_append, List.getElem?_cons_succ]; exact hs) (by rw [List.getElem?_cons_succ]; exact hx)⟩
   cases h0 with
   | int _ n b1 b2 =>
     have b1 : 0 <= n := b1
     have b2 : n <= 18446744073709551615 := b2
     refine ⟨n :: ws, ys, by rw [k1, encs_cons]; rfl, by simp [k2], fun x hx => ?_, k4⟩
     rcases List.mem_cons.1 hx with rfl | hx
     . exact ⟨b1, by omega⟩
     . exact k3 x hx
theorem okL_redo {l : List AV} (h0 : OkL i8 l) : ∃ r : Redo, l = redA r /\ RedT r := by
 have em : IntKind.u64.min = 0 := rfl
 have ex : IntKind.u64.max = 18446744073709551615 := by decide
 have em' : IntKind.i64.min = -9223372036854775808 := by decide
 have ex' : IntKind.i64.max = 9223372036854775807 := by decide
 obtain ⟨hl, h⟩ := h0
 match l, hl with
 | a0 :: a1 :: t, hl =>
   have o0 := h 0 (.int .i64) _ rfl rfl
   have o1 := h 1 (.int .i64) _ rfl rfl
   have ht : OkL (List.replicate 16 (.int .u64) ++ [.int .i64, .int .i64, .int .u64, .int .u64, .int .i64, .bool]) t :=
     ⟨by simpa [i8] using hl, fun i s x hs hx => h (i + 2) s x (by rw [show i8 = .int .i64 :: .int .i64 :: (List.replicate 16 (.int .u64) ++ [.int .i64, .int .i64, .int .u64, .int .u64, .int .i64, .bool]) from rfl, List.getElem?_cons_succ, List.getElem?_cons_succ]; exact hs) (by rw [List.getElem?_cons_succ, List.getElem?_cons_succ]; exact hx)⟩
   obtain ⟨ws, ys, rfl, k2, k3, hl2, k4⟩ := okL_u 16 _ t ht
   match ys, hl2 with
   | [b0, b1, b2, b3, b4, b5], _ =>
     have p0 := k4 0 _ _ rfl rfl
     have p1 := k4 1 _ _ rfl rfl
     have p2 := k4 2 _ _ rfl rfl
     have p3 := k4 3 _ _ rfl rfl
     have p4 := k4 4 _ _ rfl rfl
     have p5 := k4 5 _ _ rfl rfl
     cases o0 with | int _ n0 c0 d0 =>
     cases o1 with | int _ n1 c1 d1 =>
     cases p0 with | int _ n2 c2 d2 =>
     cases p1 with | int _ n3 c3 d3 =>
     cases p2 with | int _ n4 c4 d4 =>
     cases p3 with | int _ n5 c5 d5 =>
     cases p4 with | int _ n6 c6 d6 =>
     cases p5 with | bool b =>
     rw [em] at c4 c5
     rw [ex] at d4 d5
     rw [em'] at c0 c1 c2 c3 c6
     rw [ex'] at d0 d1 d2 d3 d6
     exact ⟨⟨n0, n1, ws, n2, n3, n4, n5, n6, b⟩, rfl, ⟨c0, by show n0 < _; omega, c1, by show n1 < _; omega, k2, k3, c2, by show n2 < _; omega, c3, by show n3 < _; omega, ⟨c4, by show n4 < _; omega⟩, ⟨c5, by show n5 < _; omega⟩, c6, by show n6 < _; omega⟩⟩
theorem red24 {r : Redo} (h : r.ws.length = 16) : (redA r).length = 24 := by
 unfold redA
 simp only [List.length_cons, List.length_append, lenU, h, List.length_nil]
theorem redOne (r : Redo) : allOne (redA r) = true := by
 have e : redA r = [.int .i64 r.k, .int .i64 r.i] ++ (encs u64A r.ws ++ [.int .i64 r.fr, .int .i64 r.to, .int .u64 r.fk, .int .u64 r.tk, .int .i64 r.rc, .bool r.dir]) := rfl
 rw [e, allOne_append, allOne_append, one_u64A]
 rfl
theorem lendJ (H : Heap) (k : Nat) (w : List Int) : (encs u64A w).map (lendK H k) = encs u64A w := by
 induction w with
 | nil => rfl
 | cons x r ih => rw [encs_cons, List.map_append, ih, u64A, List.map_cons, List.map_nil, lendK_int]
theorem lend_rowJ {H : Heap} {id : Nat} {w : List Int} (h : H[id]? = some (.cells (encs u64A w))) (hl : w.length = 64) : lendK H 4 (.rsl 1 id 64) = .sl 1 w.length (encs u64A w ++ []) .ro := by
 show (match H[id]? with
     | some (AObj.cells cs) => if 64 * 1 <= cs.length then AV.sl 1 64 ((cs.take (64 * 1)).map (lendK H 3)) .ro else AV.rsl 1 id 64
     | _ => AV.rsl 1 id 64) = _
 rw [h]
 simp only
 have l := lenU w
 rw [if_pos (by omega), List.take_of_length_le (by omega), lendJ, List.append_nil, hl]
theorem dropP {α : Type} {f : α -> List AV} {k : Nat} [Even f k] (l : List α) (j : Nat) {x : α} (h : l[j]? = some x) : List.drop (j * k) (encs f l) = f x ++ encs f (l.drop (j + 1)) := by
 rw [encs_drop]
 obtain ⟨h1, h2⟩ := List.getElem?_eq_some_iff.1 h
 rw [List.drop_eq_getElem_cons h1, h2, encs_cons]
theorem stF_get (at' : Int) : ∀ (l : List Int) (j i : Nat), (stF at' j l)[i]? = l[i]?.map fun x => (at' + 1 + ((j + i : Nat) : Int), x)
 | [], _, _ => by simp [stF]
 | x :: r, j, 0 => by simp [stF]
 | x :: r, j, i + 1 => by
   rw [stF, List.getElem?_cons_succ, List.getElem?_cons_succ, stF_get at' r (j + 1) i]
   have : j + 1 + i = j + (i + 1) := by omega
   rw [this]
def wst (x0 : Int) (tl wt : List Int) (k : Nat) : List Int := if k <= tl.length then 0 :: (tl.take k ++ wt.drop k) else x0 :: (tl ++ wt.drop tl.length)
theorem wst_len {x0 : Int} {tl wt : List Int} (h1 : tl.length <= 18) (h2 : wt.length = 63) (k : Nat) : (wst x0 tl wt k).length = 64 := by
 unfold wst
 split
 . rw [List.length_cons, List.length_append, List.length_take, List.length_drop]; omega
 . rw [List.length_cons, List.length_append, List.length_drop]; omega
theorem wst_step {at' x0 : Int} {tl wt : List Int} (h1 : tl.length <= 18) (h2 : wt.length = 63) (k : Nat) (hk : k <= tl.length) :
   ∃ a v, (stF at' 0 tl ++ [(at', x0)])[k]? = some (a, v) /\ at' <= a /\ a < at' + 64 /\ (wst x0 tl wt k).set (a - at').toNat v = wst x0 tl wt (k + 1) := by
 by_cases hk1 : k = tl.length
 . subst hk1
   refine ⟨at', x0, ?_, Int.le_refl _, by omega, ?_⟩
   . rw [List.getElem?_append_right (by rw [stF_len]; omega), stF_len, Nat.sub_self]; rfl
   . have e1 : wst x0 tl wt tl.length = 0 :: (tl ++ wt.drop tl.length) := by
       rw [wst, if_pos (Nat.le_refl _), List.take_length]
     have e2 : wst x0 tl wt (tl.length + 1) = x0 :: (tl ++ wt.drop tl.length) := by rw [wst, if_neg (by omega)]
     have e0 : (at' - at').toNat = 0 := by omega
     rw [e1, e2, e0]
     rfl
 . have hk2 : k < tl.length := by omega
   refine ⟨at' + 1 + ((0 + k : Nat) : Int), tl[k], ?_, by omega, by omega, ?_⟩
   . rw [List.getElem?_append_left (by rw [stF_len]; omega), stF_get, List.getElem?_eq_getElem hk2]; rfl
   . have e0 : (at' + 1 + ((0 + k : Nat) : Int) - at').toNat = k + 1 := by omega
     rw [e0, wst, wst, if_pos (by omega), if_pos (by omega), List.set_cons_succ, List.set_append_right _ _ (by rw [List.length_take]; omega)]
     have e1 : k - (tl.take k).length = 0 := by rw [List.length_take]; omega
     rw [e1, List.drop_eq_getElem_cons (i := k) (by omega), List.set_cons_zero]
     have ht : tl.take (k + 1) = tl.take k ++ [tl[k]] := by rw [List.take_add_one, List.getElem?_eq_getElem hk2]; rfl
     rw [ht, List.append_assoc]
     rfl
theorem wst_u {x0 : Int} {tl wt : List Int} (h0 : ∀ x ∈ x0 :: tl, U64 x) (h1 : ∀ x ∈ wt, U64 x) (k : Nat) : ∀ x ∈ wst x0 tl wt k, U64 x := by
 intro x hx
 unfold wst at hx
 split at hx
 . rcases List.mem_cons.1 hx with rfl | hx
   . exact ⟨by decide, by decide⟩
   . rcases List.mem_append.1 hx with hx | hx
     . exact h0 x (List.mem_cons_of_mem _ (List.mem_of_mem_take hx))
     . exact h1 x (List.mem_of_mem_drop hx)
 . rcases List.mem_cons.1 hx with rfl | hx
   . exact h0 _ (List.mem_cons_self ..)
   . rcases List.mem_append.1 hx with hx | hx
     . exact h0 x (List.mem_cons_of_mem _ hx)
     . exact h1 x (List.mem_of_mem_drop hx)
theorem out_zero {F : Frm} {Y : Ly} (ho : okY F Y) {w : List Int} (hl : w.length = 64) (h0 : w.getD 0 0 = 0) : outJ F Y w = (red0, false, 0) := by
 unfold outJ
 rw [if_pos ho]
 unfold ofW
 rw [if_neg (fun h => h hl), if_pos h0]
theorem setU64 (w : List Int) (i : Nat) (v : Int) (h : i < w.length) : List.take i (encs u64A w) ++ [AV.int .u64 v] ++ List.drop (i + 1) (encs u64A w) = encs u64A (w.set i v) := setU w i v h
def a63 : List Sh := List.replicate 63 (.int .u64)
theorem journalHolds_pc {l : List AV} {n : AV} {xs ws : List AV} (h0 : OkL [.int .i64, .int .i64, .int .i64, .int .i64] l) (h1 : OkS (.int .i64) n) (h2 : OkL i8 xs) (h3 : OkL a63 ws) :
   (cbL tab).pc 7 [.agg l, n, .agg xs, .agg ws] = some (.plain (.bool true)) := by
 obtain ⟨f, rfl⟩ := okL_frm h0
 cases h1 with | int _ n n1 n2 =>
 obtain ⟨r, rfl, ht⟩ := okL_redo h2
 obtain ⟨was, ys, rfl, hw63, hwu, hys⟩ := okL_u 63 [] ws (by rw [List.append_nil]; exact h3)
 obtain rfl : ys = [] := List.length_eq_zero_iff.1 hys.1
 rw [List.append_nil] at h3 ⊢
 have la : lend (.agg (encs u64A was)) = .agg (encs u64A was) := by
   show AV.agg ((encs u64A was).map unown) = _
   have : ∀ l : List Int, (encs u64A l).map unown = encs u64A l := by
     intro l
     induction l with
     | nil => rfl
     | cons x r ih => rw [encs_cons, List.map_append, ih]; rfl
   rw [this]
 have hfw : (AV.agg (encs u64A was)).hf = true := hf_u64A was
 refine pc_wp (fi := c7) rfl ?_ (by simp [c7]) (by decide) ?_
 . have lf : (lend (.agg (frmA f))).hf = true := rfl
   simp only [pcOn, List.map_cons, List.map_nil, hfL, hf_lend_sl, hf_lend_int, hf_lend_bool, hf_lend_str, hfL_append, Bool.and_self, Bool.and_true, Bool.true_and, c7, lend_redV, hf_redV, lf, la, hfw]
 have lf : lend (.agg (frmA f)) = .agg (frmA f) := rfl
 rw [List.map_cons, List.map_cons, List.map_cons, List.map_cons, List.map_nil, lf, lend_redV, lend_int, la]
 unfold c7
 have hly := fun H => llay_px f false H
 have hY := lawY_t f false
 generalize lawF f = F at *
 generalize lawY f false = Y at *
 have s1 := fun H => jstores_px (f := F) hY n ht H
 have sk := fun H => jstrike_px F Y n H
 have wk1 := fun H => jworks_px H
 have np := fun n H => jnum_px n H
 have R24 := red24 ht.wl
 have RO := redOne r
 have Rt : List.take 24 (redA r) = redA r := List.take_of_length_le (by omega)
 have rq := fun xo yo => (show binV .neq (.struct redK) xo yo (.agg (redA r)) (.agg (redA r)) = some (.bool false) from by rw [bv_sneq (red_eqc ht.wl ht.wl), decide_eq_true rfl]; rfl)
 unfold redK at rq
 unfold putsV at s1 sk
 unfold storesJ at s1
 have oW := one_u64A was
 have lW := lenU was
 have l63 : (encs u64A was).length = 63 := by rw [lW, hw63]
 by_cases hc : clientJ F Y n
 case neg =>
   rw [if_neg hc] at s1
   unfold strikeJ at sk
   rw [if_neg hc] at sk
   have e0 : slvR 2 putA ([] : List (Int × Int)) = .sl 0 0 [] .z := rfl
   dsimp only at s1 sk
   rw [e0] at s1 sk
   clear hc hY
   generalize redA r = R at *
   unfold lyV lyA frmA at *
   simp only [List.cons_append, List.nil_append] at hly s1 sk ⊢
   simp (disch := omega) only [wk, tupled, ↓reduceIte, reduceEqDiff, reduceEq, reduceAdd, reduceCtorEq, hly, s1, sk, np, wk1, RO, R24, Rt, oW, purify, unownT, lend, unown, AV.hf, hfL, Tk.hf]
 rw [if_pos hc] at s1
 unfold strikeJ at sk
 rw [if_pos hc] at sk
 have e1 : slvR 2 putA [(64 + n * 64, (0 : Int))] = .sl 2 1 [.int .i64 (64 + n * 64), .int .u64 0] .ro := rfl
 dsimp only at sk
 rw [e1] at sk
 obtain ⟨ho, hn0, hn7⟩ := hc
 by_cases hm : mayR F r
 case neg =>
   rw [if_neg hm] at s1
   have e0 : slvR 2 putA ([] : List (Int × Int)) = .sl 0 0 [] .z := rfl
   dsimp only at s1
   rw [e0] at s1
   clear hm hY ho
   generalize redA r = R at *
   unfold lyV lyA frmA at *
   simp only [List.cons_append, List.nil_append] at hly s1 sk ⊢
   simp (disch := omega) only [wk, tupled, ↓reduceIte, reduceEqDiff, reduceEq, reduceAdd, reduceCtorEq, hly, s1, sk, np, wk1, RO, R24, Rt, oW, purify, unownT, lend, unown, AV.hf, hfL, Tk.hf]
 rw [if_pos hm] at s1
 have hWu : ∀ x ∈ wordsR r, U64 x := by
   have pu := plainR_u ht ho.1 hm
   intro x hx
   unfold wordsR sealM at hx
   rcases List.mem_append.1 hx with hx | hx
   . exact pu x hx
   . simp only [List.mem_cons, List.not_mem_nil, or_false] at hx
     subst hx
     exact moreM_ok ⟨by decide, by decide⟩ _
 have pl := wordsR_len ht
 have ofw := fun rest hl => of_words (f := F) hm ht rest hl
 obtain ⟨x0, tl, hx⟩ : ∃ x0 tl, wordsR r = x0 :: tl := ⟨headR r, _, rfl⟩
 rw [hx] at s1 hWu pl ofw
 have htl : tl.length <= 18 := by simp only [List.length_cons] at pl; split at pl <;> omega
 have sm : storesM (64 + n * 64) (x0 :: tl) = stF (64 + n * 64) 0 tl ++ [(64 + n * 64, x0)] := rfl
 rw [sm] at s1
 have en1 : 64 + 64 * n = 64 + n * 64 := by omega
 generalize hat : 64 + n * 64 = at' at *
 have hat0 : 0 <= at' := by omega
 have hat1 : at' <= 600 := by omega
 obtain ⟨L, hL⟩ : ∃ L, L = stF at' 0 tl ++ [(at', x0)] := ⟨_, rfl⟩
 rw [<- hL] at s1
 have lL : L.length = tl.length + 1 := by rw [hL, List.length_append, stF_len]; rfl
 have hLne : L ≠ [] := by intro e; rw [e] at lL; simp at lL
 have svL : slvR 2 putA L = .sl 2 L.length (encs putA L) .ro := by
   unfold slvR
   have : L.isEmpty = false := by
     cases hh : L with
     | nil => exact absurd hh hLne
     | cons _ _ => rfl
   rw [this]; rfl
 dsimp only at s1
 rw [svL] at s1
 have hWs := fun k => wst_len (x0 := x0) (tl := tl) (wt := was) htl hw63 k
 have hWuu := fun k => wst_u (x0 := x0) (tl := tl) (wt := was) hWu hwu k
 have hzero : ∀ k, k <= tl.length -> outJ F Y (wst x0 tl was k) = (red0, false, 0) := fun k hk => out_zero ho (hWs k) (by rw [wst, if_pos hk]; rfl)
 have hlast : outJ F Y (wst x0 tl was (tl.length + 1)) = (r, true, 0) := by
   unfold outJ
   rw [if_pos ho, wst, if_neg (by omega)]
   exact ofw _ (by rw [List.length_append, List.length_cons, List.length_drop, hw63]; omega)
 have hend : outJ F Y ((wst x0 tl was (tl.length + 1)).set 0 0) = (red0, false, 0) := out_zero ho (by rw [List.length_set]; exact hWs _) (by rw [wst, if_neg (by omega)]; rfl)
 have hendu : ∀ x ∈ (wst x0 tl was (tl.length + 1)).set 0 0, U64 x := fun x hx => by
   rcases List.mem_or_eq_of_mem_set hx with hx | rfl
   . exact hWuu _ x hx
   . exact u0
 have jo := fun (w : List Int) (hl : w.length = 64) (hu : ∀ x ∈ w, U64 x) H (h : H[1]? = some (.cells (encs u64A w))) => jof_px' (f := F) hY w [] 1 .ro (.inl rfl) (fun _ => rfl) rfl rfl hu (by omega) H _ (lend_rowJ h hl)
 have hstep := fun k hk => wst_step (at' := at') (x0 := x0) (tl := tl) (wt := was) htl hw63 k hk
 rw [<- hL] at hstep
 have wst0 : wst x0 tl was 0 = 0 :: was := by rw [wst, if_pos (Nat.zero_le _)]; rfl
 clear hx pl ofw hL svL hm sm hwu hWu
 obtain ⟨Lv, hLv⟩ : ∃ Lv, Lv = lyA F Y.k0 Y.k1 Y.c Y.d Y.e Y.g := ⟨_, rfl⟩
 have hL10 : Lv.length = 10 := by rw [hLv]; rfl
 have hLo : allOne Lv = true := by rw [hLv]; rfl
 have tL : List.take 10 Lv = Lv := List.take_of_length_le (by omega)
 unfold lyV at hly jo s1 sk
 rw [<- hLv] at hly jo s1 sk
 unfold outV at jo
 generalize hRr : redA r = R at *
 unfold frmA at hly ⊢
 clear hLv hY ho
 have ap : appR 1 8 (.sl 1 1 [.int .u64 0] .e) (.sl 1 63 (encs u64A was) .ro) [.cells Lv] = some (.val (.rsl 1 1 64), [.cells Lv, .cells (encs u64A (wst x0 tl was 0))]) := by
   have t63 : List.take 63 (encs u64A was) = encs u64A was := List.take_of_length_le (by omega)
   rw [wst0]
   simp [appR, t63, oW, l63, Tk.empty, encs_cons, u64A]
 have d63 : List.take 63 (encs u64A was) = encs u64A was := List.take_of_length_le (by omega)
 have j63 : (63 : Int).toNat = 63 := rfl
 have c63 : ((63 : Nat) : Int) = 63 := rfl
 have nn0 : ¬ n < 0 := by omega
 simp (disch := omega) only [wk, tupled, ↓reduceIte, reduceEqDiff, reduceEq, reduceAdd, reduceCtorEq, hly, s1, sk, np, wk1, RO, R24, Rt, oW, en1, hLo, hL10, tL, List.append_nil, l63, ap, d63]
 clear hly s1 ap d63 hLo oW l63 lW hfw la h3 wst0
 refine loop_ind (fun (k : Nat) E df H1 => k <= tl.length + 1 /\ E 6 = .eptr R /\ E 8 = .bool false /\ E 9 = .ptr 0 0 /\ E 10 = .sl 2 L.length (encs putA L) .ro /\ E 12 = .sl 2 1 [.int .i64 at', .int .u64 0] .ro /\ E 14 = .int .i64 at' /\ E 15 = .int .i64 0 ∧
     E 16 = .rsl 1 1 64 /\ E 17 = .int .i64 (k : Nat) /\ df = [] /\ H1[0]? = some (.cells Lv) /\ H1[1]? = some (.cells (encs u64A (wst x0 tl was k))))
   (fun k => tl.length + 1 - k) 0 (by decide) (.inl rfl) ⟨by omega, rfl, rfl, rfl, rfl, rfl, rfl, rfl, rfl, rfl, rfl, rfl, rfl⟩ ?_
 intro k E df H1 ih hP
 obtain ⟨hk, E6, E8, E9, E10, E12, E14, E15, E16, E17, hdf, h10, h11⟩ := hP
 subst hdf
 have hl1 : 1 < H1.length := (List.getElem?_eq_some_iff.1 h11).1
 have g1 : ∀ o : AObj, (H1 ++ [o])[H1.length]? = some o := fun o => by simp
 have g2 : ∀ o o' : AObj, (H1 ++ [o]).set H1.length o' = H1 ++ [o'] := fun o o' => by simp
 have g3 : ∀ o : AObj, (H1 ++ [o])[0]? = some (.cells Lv) := fun o => by rw [List.getElem?_append_left (by omega)]; exact h10
 have g4 : ∀ o : AObj, (H1 ++ [o])[1]? = some (.cells (encs u64A (wst x0 tl was k))) := fun o => by rw [List.getElem?_append_left (by omega)]; exact h11
 have o1 := jo _ (hWs k) (hWuu k) H1 h11
 have lw := lenU (wst x0 tl was k)
 rw [hWs k] at lw
 by_cases hkl : k <= tl.length
 . obtain ⟨a, v, k1, k2, k3, k4⟩ := hstep k hkl
   have dk := dropP (f := putA) L k k1
   simp only [putA, List.cons_append, List.nil_append] at dk
   rw [hzero k hkl, red0_lit] at o1
   dsimp only at o1
   have m1 : (k : Int) < (L.length : Int) := by omega
   have nk1 : ¬ a < at' := by omega
   have nk2 : ¬ at' + 64 <= a := by omega
   have am : 0 <= a - at' /\ a - at' < 64 := by omega
   have ai : (a - at').toNat + 1 <= 64 := by omega
   have a1' : (a - at').toNat * 1 = (a - at').toNat := Nat.mul_one _
   have su := setU64 (wst x0 tl was k) (a - at').toNat v (by rw [hWs]; omega)
   rw [k4] at su
   have c64 : ((64 : Nat) : Int) = 64 := rfl
   clear jo hstep hzero hlast hend hendu hWuu hWs
   simp (disch := omega) only [wk, tupled, ↓reduceIte, reduceEqDiff, reduceEq, reduceAdd, reduceCtorEq, E6, E8, E9, E10, E12, E14, E15, E16, E17, m1, h10, hL10, tL, o1, g1, g2, g3, g4, np, nk1, nk2, dk, am, ai, a1', c64, lw, su, Int.reduceToNat, Int.reduceAdd, Int.reduceSub, Int.reduceMul, Int.reduceNeg, Nat.reduceSub, Nat.reduceDiv, List.append_nil]
   refine ih (k + 1) _ _ _ (by omega) ⟨by omega, by simp only [en, ↓reduceIte, reduceEqDiff, E6], by simp only [en, ↓reduceIte, reduceEqDiff, E8], by simp only [en, ↓reduceIte, reduceEqDiff, E9], by simp only [en, ↓reduceIte, reduceEqDiff, E10], by simp only [en, ↓reduceIte, reduceEqDiff, E12], by simp only [en, ↓reduceIte, reduceEqDiff, E14], by simp only [en, ↓reduceIte, reduceEqDiff, E15], by simp only [en, ↓reduceIte, reduceEqDiff, E16], by simp only [en, ↓reduceIte, reduceEqDiff], rfl, ?_, ?_⟩
   . rw [hset_ne (by omega)]; exact g3 _
   . exact hset_eq (g4 _)
 . obtain rfl : k = tl.length + 1 := by omega
   have m1 : ¬ ((tl.length + 1 : Nat) : Int) < (L.length : Int) := by omega
   rw [hlast] at o1
   dsimp only at o1
   rw [hRr] at o1
   have sd := setU64 (wst x0 tl was (tl.length + 1)) 0 0 (by rw [hWs]; decide)
   simp only [List.take_zero, List.nil_append, List.cons_append, Nat.zero_add] at sd
   have l2 : ((wst x0 tl was (tl.length + 1)).set 0 0).length = 64 := by rw [List.length_set]; exact hWs _
   have o2 := jo _ l2 hendu ((H1 ++ [AObj.cells R]).set 1 (AObj.cells (encs u64A ((wst x0 tl was (tl.length + 1)).set 0 0)))) (hset_eq (g4 _))
   rw [hend, red0_lit] at o2
   dsimp only at o2
   obtain ⟨H3, hH3⟩ : ∃ H3, H3 = (H1 ++ [AObj.cells R]).set 1 (AObj.cells (encs u64A ((wst x0 tl was (tl.length + 1)).set 0 0))) := ⟨_, rfl⟩
   have r0 : H3[0]? = some (.cells Lv) := by rw [hH3, hset_ne (by decide)]; exact g3 _
   rw [<- hH3] at o2
   have hs3 : ∀ A : AObj, A = .cells (encs u64A ((wst x0 tl was (tl.length + 1)).set 0 0)) -> (H1 ++ [AObj.cells R]).set 1 A = H3 := fun A hA => by rw [hA, hH3]
   have hs4 := hs3 _ rfl
   have r1 : ∀ o : AObj, (H3 ++ [o])[H3.length]? = some o := fun o => by simp
   have r2 : ∀ o o' : AObj, (H3 ++ [o]).set H3.length o' = H3 ++ [o'] := fun o o' => by simp
   have c64 : ((64 : Nat) : Int) = 64 := rfl
   have i0 : (0 : Int).toNat = 0 := rfl
   have z1 : 0 * 1 = 0 := rfl
   clear jo hstep hzero hlast hend hendu hWuu hWs hH3 hs3
   simp (disch := omega) only [wk, tupled, ↓reduceIte, reduceEqDiff, reduceEq, reduceAdd, reduceCtorEq, E6, E8, E9, E10, E12, E14, E15, E16, E17, m1, h10, hL10, tL, o1, g1, g2, g3, g4, np, R24, RO, Rt, rq, c64, lw, sd, i0, z1, hs4, o2, r0, r1, r2, wk1, Int.reduceToNat, Int.reduceAdd, Int.reduceSub, Int.reduceMul, Int.reduceNeg, Nat.reduceSub, Nat.reduceDiv, List.append_nil, purify, unownT, lend, unown, AV.hf, hfL, Tk.hf]
end Go.Proofs.YtobhofmicgmjfaaGreat
namespace Go.Proofs.YtobhofmicgmjfaaGreat
open Go Go.Proofs Go.Shelf Go.RowKit
def gren : Go.Shelf.Ren := ⟨fun | 4 => 60 | n => n, fun | 22 => 24 | 25 => 26 | n => n, fun | n => n⟩
theorem glays : Go.Proofs.Lays8.n4 Tryz.prog gren := {
 mixed := by kernel_rfl
 f4 := ⟨Tryz.f60.name, by kernel_rfl, Tryz.func60.trans (congrArg some (by kernel_rfl))⟩
 t0 := Tryz.underlying0
 a0 := Tryz.isAgg0
 z0 := Tryz.sizeOf0
 v0 := Tryz.zeroValue0
 t3 := Tryz.underlying3
 a3 := Tryz.isAgg3
 z3 := Tryz.sizeOf3
 v3 := Tryz.zeroValue3
 t4 := Tryz.underlying4
 a4 := Tryz.isAgg4
 z4 := Tryz.sizeOf4
 v4 := Tryz.zeroValue4
 t9 := Tryz.underlying9
 a9 := Tryz.isAgg9
 z9 := Tryz.sizeOf9
 v9 := Tryz.zeroValue9
 t20 := Tryz.underlying20
 a20 := Tryz.isAgg20
 z20 := Tryz.sizeOf20
 v20 := Tryz.zeroValue20
 t22 := Tryz.underlying24
 a22 := Tryz.isAgg24
 z22 := Tryz.sizeOf24
 v22 := Tryz.zeroValue24
}
theorem info9 : ∃ i, Tryz.prog.info? 26 = some i /\ i.zero = some (.int .u64 0) /\ i.size = 1 /\ i.bytes = 8 := by
 have h : (Tryz.prog.info? 26).map (fun i => (i.zero, i.size, i.bytes)) = some (some (.int .u64 0), 1, 8) := by kernel_rfl
 obtain ⟨i, hi, h2⟩ := Option.map_eq_some_iff.1 h
 simp only [Prod.mk.injEq] at h2
 exact ⟨i, hi, h2.1, h2.2.1, h2.2.2⟩
def GrownP (w : World) (n : Nat) (e : Ending) (w' : World) : Prop := ∃ v, e = .returned v /\ w'.ownsRow w.heap.size 26 1 v 0 [] /\ Below w.heap.size w w' /\ (n = 0 -> v = .slice none 0 0)
theorem grow_nil (n : Nat) (hn : n <= 4294967296) (w : World) :
   Calls Tryz.prog 60 #[.slice none 0 0, .int .i64 n] w (GrownP w n) := by
 by_cases h0 : n = 0
 . subst h0
   refine (Any8.slices_Grow_room glays none 0 0 0 w (Nat.le_refl _) (by omega) (by omega) (by omega)).mono ?_
   rintro e w' ⟨rfl, rfl⟩
   exact ⟨_, rfl, World.ownsRow_nil _ _ _ _, Below.refl _ _, fun _ => rfl⟩
 . obtain ⟨i, hi, hz, hs, hb⟩ := info9
   have hg := grownCap_ge w (0 + n) 0 26
   have hgl := grownCap_le_maxLen w (0 + n) 0 26 (by simp only [maxLen]; omega)
   refine (Any8.slices_Grow_grow glays i (.int .u64 0) hi hz (by omega) none 0 0 n [] w (Nat.le_refl _) (by omega) (by rw [hb]; omega) (by omega) (by simp) (fun _ => rfl) (fun a h => by cases h)).mono ?_
   rintro e w' ⟨rfl, rfl⟩
   refine ⟨_, rfl, World.ownsRow_made w.drew _ _ (Nat.le_refl _) hgl ?_, ((Below.refl _ w).drew).alloc (Nat.le_refl _) _, fun h => absurd h h0⟩
   have z1 : (.int .u64 0 : Value).cells.size = 1 := rfl
   have g1 : grownCap w (0 + n) 0 (gren.t 25) = grownCap w (0 + n) 0 26 := rfl
   simp only [Array.size_append, size_zeroCells, z1, Nat.mul_one, List.size_toArray, List.length_nil, g1]
   omega
structure CRow where
 a : Option Addr
 n : Nat
 c : Nat
 xs : List Value
def CRow.ok (w : World) (r : CRow) : Prop := r.xs.length = r.n * 1 /\ (r.a = none -> r.n = 0 /\ r.c = 0) /\ (∀ a, r.a = some a -> ∀ j u, r.xs[j]? = some u -> w.cell? (a.add j) = some u) /\ ∀ u ∈ r.xs, u.oneCell' = true
def sumN (l : List CRow) : Nat := (l.map (·.n)).sum
theorem sumN_take (l : List CRow) (k : Nat) : sumN (l.take k) <= sumN l := by
 induction l generalizing k with
 | nil => simp
 | cons r l ih =>
   cases k with
   | zero => simp [sumN]
   | succ k =>
     have := ih k
     simp only [sumN, List.take_succ_cons, List.map_cons, List.sum_cons] at this ⊢; omega
theorem sumN_succ (l : List CRow) (k : Nat) (r : CRow) (h : l[k]? = some r) : sumN (l.take (k + 1)) = sumN (l.take k) + r.n := by
 rw [List.take_add_one, h]
 simp [sumN]
theorem append_row (w wr : World) (v : Value) (n : Nat) (xs : List Value) (r : CRow) (ho : wr.ownsRow w.heap.size 26 1 v n xs) (hb : Below w.heap.size w wr) (hr : r.ok wr) (hs : n + r.n <= 4294967296) :
   ∃ v' w', (∀ ty, (Builtin.append_ #[24, 24] ty #[v, .slice r.a r.n r.c]).run Tryz.prog wr = .ok v' w') /\ w'.ownsRow w.heap.size 26 1 v' (n + r.n) (xs ++ r.xs) /\ Below w.heap.size w w' /\ (v = .slice none 0 0 -> r.n = 0 -> v' = .slice none 0 0) := by
 obtain ⟨i, hi, hz, hsz, hby⟩ := info9
 obtain ⟨h1, h2, h3, h4⟩ := hr
 obtain ⟨a, m, c, ys⟩ := r
 dsimp only at *
 have hsize := hb.size
 cases a with
 | none =>
   obtain ⟨rfl, rfl⟩ := h2 rfl
   have : ys = [] := List.eq_nil_of_length_eq_zero (by omega)
   subst this
   refine ⟨v, wr, fun ty => run_append_owned_none wr w.heap.size 24 ty 26 i 1 Tryz.underlying24 hi v n xs ho, by simpa using ho, hb, fun h _ => h⟩
 | some a =>
   have key : ∀ ty, ∃ v' w', (Builtin.append_ #[24, 24] ty #[v, .slice (some a) m c]).run Tryz.prog wr = .ok v' w' /\ w'.ownsRow w.heap.size 26 1 v' (n + m) (xs ++ ys) /\ wr.grownBy w' v.ownBlock /\ (v' = .slice none 0 0 ↔ v = .slice none 0 0 /\ m = 0) := fun ty =>
     run_append_own wr w.heap.size 24 ty 26 i (.int .u64 0) 1 8 Tryz.underlying24 hi hz hsz hby rfl (by omega) v n xs ho a m c ys (by omega) (h3 a rfl) h4 (by simp only [maxLen]; omega) (by omega) hsize
   obtain ⟨v', w', k1, k2, k3, k4⟩ := key 0
   refine ⟨v', w', fun ty => ?_, k2, hb.grown k3 hsize (fun k hk => (ho.lt k hk).1), fun h h' => k4.2 ⟨h, h'⟩⟩
   rw [<- k1]
   rfl
def ConcP (rows : List CRow) (w : World) (e : Ending) (w' : World) : Prop := ∃ v, e = .returned v /\ w'.ownsRow w.heap.size 26 1 v (sumN rows) (rows.flatMap (·.xs)) /\ Below w.heap.size w w' /\ (sumN rows = 0 -> v = .slice none 0 0)
set_option maxHeartbeats 4000000 in
set_option maxRecDepth 1000000 in
theorem concat_walk (base : Addr) (N cap : Nat) (rows : List CRow) (w : World) (hl : rows.length = N) (hN : N <= 4294967296)
   (hc : ∀ i r, rows[i]? = some r -> w.cell? (base.add i) = some (.slice r.a r.n r.c)) (hr : ∀ r ∈ rows, r.ok w) (ht : sumN rows <= 4294967296) :
   Calls Tryz.prog 38 #[.slice (some base) N cap] w (ConcP rows w) := by
 go_enter Tryz.func38, Tryz.ntmps38
 go_wp2
 go_loopw [3, 11] (fun s i wr => ∃ (k : Nat), k <= N /\ i = .int .i64 k /\ s = .int .i64 (sumN (rows.take k) : Nat) /\ wr = w) (fun s i _ => N - (RowKit.intOf i).toNat)
 case atStart => exact ⟨0, by omega, rfl, rfl, rfl⟩
 case round =>
   obtain ⟨k, hk, rfl, rfl, hww⟩ := hrel
   have hww := hww.symm
   subst hww
   by_cases hp : k < N
   . obtain ⟨r, hrk⟩ : ∃ r, rows[k]? = some r := ⟨_, List.getElem?_eq_getElem (by omega)⟩
     have hcell := hc k r hrk
     have hss := sumN_succ rows k r hrk
     have hle := sumN_take rows (k + 1)
     rw [hss] at hle
     have hw : wrap64 ((sumN (rows.take k) : Int) + (r.n : Int)) = (sumN (rows.take k) : Int) + (r.n : Int) := by unfold wrap64; omega
     have hneg : ¬ ((sumN (rows.take k) : Int) + (r.n : Int) < 0) := by omega
     clear hrk hc
     go_wp2
     refine ⟨⟨k + 1, by omega, rfl, ?_, trivial⟩, ?_⟩
     . rw [hss]; rfl
     . show N - ((k : Int) + 1).toNat < N - (k : Int).toNat
       omega
   . obtain rfl : k = N := by omega
     have hall : rows.take k = rows := List.take_of_length_le (by omega)
     rw [hall]
     go_wp2_with (go_at_call 60; refine (grow_nil (sumN rows) ht w).mono ?_)
     rintro e W1 ⟨v, rfl, ho, hb, hn0⟩
     go_wp2
     go_loopw [6, 27] (fun s i wq => ∃ (j : Nat), j <= k /\ i = .int .i64 j /\ wq.ownsRow w.heap.size 26 1 s (sumN (rows.take j)) ((rows.take j).flatMap (·.xs)) /\ Below w.heap.size w wq /\ (sumN rows = 0 -> s = .slice none 0 0)) (fun s i _ => k - (RowKit.intOf i).toNat)
     case atStart => exact ⟨0, by omega, rfl, ho, hb, hn0⟩
     case round =>
       obtain ⟨j, hj, rfl, ho1, hb1, hn1⟩ := hrel
       by_cases hp : j < k
       . obtain ⟨r, hrk⟩ : ∃ r, rows[j]? = some r := ⟨_, List.getElem?_eq_getElem (by omega)⟩
         have hcell := hc j r hrk
         have hblk : (base.add j).block < w.heap.size := World.block_lt_of_cell? w (base.add j) hcell
         rw [<- hb1.cell (p := base.add j) hblk] at hcell
         have hss := sumN_succ rows j r hrk
         have hle := sumN_take rows (j + 1)
         rw [hss] at hle
         have hok : r.ok wr := by
           obtain ⟨q1, q2, q3, q4⟩ := hr r (List.mem_of_getElem? hrk)
           exact ⟨q1, q2, fun a ha i u hu => by
             have := q3 a ha i u hu
             rw [<- this]
             exact hb1.cell (World.block_lt_of_cell? w _ this), q4⟩
         have hxs : (rows.take (j + 1)).flatMap (·.xs) = (rows.take j).flatMap (·.xs) ++ r.xs := by
           rw [List.take_add_one, hrk]
           simp
         obtain ⟨v', w', k1, k2, k3, k4⟩ := append_row w wr _ _ _ r ho1 hb1 hok (by omega)
         rw [<- hxs, <- hss] at k2
         clear hrk hok hc hr
         go_wp2_with (at_builtin; refine Lib.wpList_append_run _ rfl _ _ _ _ rfl _ _ rfl rfl _ _ (k1 _) ?_)
         refine ⟨⟨j + 1, by omega, rfl, k2, k3, fun h0 => k4 (hn1 h0) (by have := sumN_take rows (j + 1); omega)⟩, ?_⟩
         show k - ((j : Int) + 1).toNat < k - (j : Int).toNat
         omega
       . obtain rfl : j = k := by omega
         rw [hall] at ho1
         go_wp2
         go_ret
         exact ⟨_, rfl, ho1, hb1, hn1⟩
end Go.Proofs.YtobhofmicgmjfaaGreat
namespace Go.Proofs.YtobhofmicgmjfaaGreat
open Go Go.Am Go.RowKit
variable [Thaw]
theorem add_none' (b o i : Nat) : (⟨b, o, none⟩ : Addr).add i = ⟨b, o + i, none⟩ := by unfold Addr.add; split <;> simp_all
theorem row_inv0 {V : View} {W : World} (hi : ∀ p v, V.imm p = some v -> W.cell? p = some v /\ v.oneCell' = true) {s n k : Nat} {cs : List AV} {tk : Tk} {v : Value} (h : Rep V (.sl s n cs tk) v) (hs : n = 0 ∨ s = k) (hn : n * k <= cs.length) :
   ∃ (a : Option Addr) (c : Nat) (xs : List Value), v = .slice a n c /\ xs.length = n * k /\ (a = none -> n = 0 /\ c = 0) /\ (∀ a', a = some a' -> ∀ j u, xs[j]? = some u -> W.cell? (a'.add j) = some u) /\ (∀ u ∈ xs, u.oneCell' = true) /\ RepL V (cs.take (n * k)) xs := by
 have main : ∀ (b o cap : Nat) (f : Nat -> Value), v = .slice (some ⟨b, o, none⟩) n cap -> (∀ i, i < cs.length -> V.imm ⟨b, o + i, none⟩ = some (f i)) -> (∀ (i : Nat) (x : AV), cs[i]? = some x -> Rep V x (f i)) -> ∃ (a : Option Addr) (c : Nat) (xs : List Value), v = .slice a n c /\ xs.length = n * k /\ (a = none -> n = 0 /\ c = 0) /\ (∀ a', a = some a' -> ∀ j u, xs[j]? = some u -> W.cell? (a'.add j) = some u) /\ (∀ u ∈ xs, u.oneCell' = true) /\ RepL V (cs.take (n * k)) xs := by
   intro b o cap f e h1 h2
   refine ⟨some ⟨b, o, none⟩, cap, (List.range (n * k)).map f, e, by simp, fun h => (by cases h), ?_, ?_, ?_, ?_⟩
   . intro a ha j u hu
     cases ha
     simp only [List.getElem?_map, Option.map_eq_some_iff] at hu
     obtain ⟨q, hk, rfl⟩ := hu
     obtain ⟨hlt, rfl⟩ := List.getElem?_eq_some_iff.1 hk
     simp only [List.length_range] at hlt
     simp only [List.getElem_range]
     rw [add_none']
     exact (hi _ _ (h1 j (by omega))).1
   . intro u hu
     obtain ⟨j, hj, rfl⟩ := List.mem_map.1 hu
     have := List.mem_range.1 hj
     exact (hi _ _ (h1 j (by omega))).2
   . simp; omega
   . intro i x v hx hv
     simp only [List.getElem?_map, Option.map_eq_some_iff] at hv
     obtain ⟨q, hk, rfl⟩ := hv
     obtain ⟨hlt, rfl⟩ := List.getElem?_eq_some_iff.1 hk
     simp only [List.getElem_range]
     rw [List.getElem?_take] at hx
     split at hx
     . exact h2 i x hx
     . cases hx
 cases h with
 | slnil => exact ⟨none, 0, [], rfl, by simp, fun _ => ⟨rfl, rfl⟩, fun a h => (by cases h), fun u h => (by cases h), by simpa using RepL.nil _⟩
 | slx _ a => exact ⟨some a, 0, [], rfl, by simp, fun h => (by cases h), fun a _ j u h => (by simp at h), fun u h => (by cases h), by simpa using RepL.nil _⟩
 | sl f a1 a2 a3 a4 a5 => exact main _ _ _ f rfl a4 a5
 | slo f a1 a2 a3 a4 a5 => exact main _ 0 _ f rfl (fun i h => by rw [Nat.zero_add]; exact a4 i h) a5
theorem row_inv {V : View} {W : World} (hi : ∀ p v, V.imm p = some v -> W.cell? p = some v /\ v.oneCell' = true) {s n : Nat} {cs : List AV} {tk : Tk} {v : Value} (h : Rep V (.sl s n cs tk) v) (hs : n = 0 ∨ s = 1) (hn : n * 1 <= cs.length) :
   ∃ r : CRow, v = .slice r.a r.n r.c /\ r.ok W /\ RepL V (cs.take (n * 1)) r.xs /\ r.n = n := by
 obtain ⟨a, c, xs, h1, h2, h3, h4, h5, h6⟩ := row_inv0 hi h hs hn
 exact ⟨⟨a, n, c, xs⟩, h1, ⟨h2, h3, h4, h5⟩, h6, rfl⟩
theorem rows_inv {V : View} {W : World} (hi : ∀ p v, V.imm p = some v -> W.cell? p = some v /\ v.oneCell' = true) : ∀ {cells : List AV} {vals : List Value} {L : List (List AV)}, RepL V cells vals -> rowsA cells = some L →
   ∃ rows : List CRow, rows.length = cells.length /\ (∀ (i : Nat) (r : CRow), rows[i]? = some r -> vals[i]? = some (.slice r.a r.n r.c)) /\ (∀ r ∈ rows, r.ok W) /\ RepL V L.flatten (rows.flatMap (·.xs)) /\ sumN rows * 1 = L.flatten.length
 | [], vals, L, h, hL => by
   cases hL
   exact ⟨[], rfl, fun i r h => (by simp at h), fun r h => (by cases h), RepL.nil _, rfl⟩
 | x :: cells, [], L, h, hL => by have := h.1; simp at this
 | x :: cells, v :: vals, L, h, hL => by
   unfold rowsA at hL
   split at hL
   . cases ‹_ :: _ = []›
   . rename_i s n cs tk r heq
     cases heq
     split at hL
     . rename_i hc
       obtain ⟨L', h1, rfl⟩ := Option.map_eq_some_iff.1 hL
       obtain ⟨r0, k1, k2, k3, k4⟩ := row_inv hi h.head hc.1 hc.2
       obtain ⟨rows, j1, j2, j3, j4, j5⟩ := rows_inv hi h.tail h1
       have hxl := k3.1
       rw [List.length_take] at hxl
       refine ⟨r0 :: rows, by simp [j1], fun i r hr => ?_, fun r hr => ?_, ?_, ?_⟩
       . cases i with
         | zero => simp at hr; subst hr; simp [k1]
         | succ i => simpa using j2 i r (by simpa using hr)
       . rcases List.mem_cons.1 hr with rfl | hr
         . exact k2
         . exact j3 r hr
       . exact k3.append j4
       . have := k2.1
         simp only [sumN, List.map_cons, List.sum_cons, List.flatten_cons, List.length_append, List.length_take] at j5 ⊢
         omega
     . cases hL
   . cases hL
theorem con_of (f : FuncId) (hf : ∀ (W : World) (us : Array Value), (callFunc f us).run Tryz.prog W = .ok (.enter f us) W)
   (hw : ∀ (base : Addr) (N cap : Nat) (rows : List CRow) (w : World), rows.length = N -> N <= 4294967296 -> (∀ (i : Nat) (r : CRow), rows[i]? = some r -> w.cell? (base.add i) = some (.slice r.a r.n r.c)) -> (∀ r ∈ rows, r.ok w) -> sumN rows <= 4294967296 -> Calls Tryz.prog f #[.slice (some base) N cap] w (ConcP rows w)) :
   ConOk Tryz.prog f concC := by
 intro args r hg V W us hi hr
 refine ⟨hf W us, ?_⟩
 show CallsIn Fence.wide 0 Tryz.prog f us W (PcPost V W r)
 refine callsIn_wide.2 ?_
 unfold concC at hg
 split at hg
 case h_2 => cases hg
 rename_i n cs tk
 split at hg
 case h_2 => cases hg
 rename_i L hL
 split at hg
 case isFalse => cases hg
 rename_i hcnd
 obtain ⟨hn0, hnc, hn, htl⟩ := hcnd
 cases hg
 have hus : ∃ v, us = #[v] /\ Rep V (.sl 1 n cs tk) v := by
   have h1 := hr.1
   match hu : us.toList, hr with
   | [v], hr => exact ⟨v, by rw [<- Array.toList_inj, hu], hr.head⟩
   | [], hr => have := hr.1; simp at this
   | _ :: _ :: _, hr => have := hr.1; simp at this
 obtain ⟨v, rfl, hv⟩ := hus
 obtain ⟨a, c, xs, e0, q1, q2, q3, q4, rep0⟩ := row_inv0 (k := 1) hi hv (.inr rfl) (by omega)
 rw [Nat.mul_one] at q1 rep0
 obtain ⟨rows, j1, j2, j3, j4, j5⟩ := rows_inv hi rep0 hL
 have hxl := rep0.1
 rw [List.length_take] at hxl
 cases a with
 | none => have := (q2 rfl).1; omega
 | some a =>
   subst e0
   refine (hw a n c rows W (by rw [j1, List.length_take]; omega) hn (fun i r hr => q3 a rfl i _ (j2 i r hr)) j3 (by omega)).mono ?_
   rintro e W' ⟨v, rfl, ho, hb, hnil⟩
   have hsn : sumN rows = L.flatten.length / 1 := by omega
   rw [hsn] at ho hnil
   by_cases hz : L.flatten = []
   . rw [if_pos hz]
     obtain rfl := hnil (by rw [hz]; rfl)
     refine ⟨V.imm, hb, fun p v hp => ?_, fun p v hp => hp, fun p v hp => .inl hp, .slnil 0⟩
     obtain ⟨h1, h2⟩ := hi p v hp
     exact ⟨by rw [hb.cell (World.block_lt_of_cell? W p h1)]; exact h1, h2⟩
   . rw [if_neg hz]
     have hnz : L.flatten.length / 1 ≠ 0 := fun e => hz (List.eq_nil_of_length_eq_zero (by omega))
     have hcells := fun {g} => ho.cells (g := g)
     rcases ho.2 with ⟨rfl, h0⟩ | ⟨g, cap, cur, rfl, hbg, hg, hncap, hcm, hcs, htk⟩
     . exact absurd h0 hnz
     have hcell := ho.cells (g := g) rfl
     have hy1 : ∀ u ∈ rows.flatMap (·.xs), u.oneCell' = true := by
       intro u hu
       obtain ⟨r, hr, hu⟩ := List.mem_flatMap.1 hu
       exact (j3 r hr).2.2.2 u hu
     generalize rows.flatMap (·.xs) = ys at *
     have hlt : ∀ p v, V.imm p = some v -> p.block < W.heap.size := fun p v hp => World.block_lt_of_cell? W p (hi p v hp).1
     refine ⟨fun p => if p.block = g /\ p.spot = none then ys[p.off]? else V.imm p, hb, fun p v hp => ?_, fun p v hp => ?_, fun p v hp => ?_, ?_⟩
     . simp only at hp
       split at hp
       . rename_i hpg
         obtain ⟨b, o, s⟩ := p
         simp only at hpg hp
         obtain ⟨rfl, rfl⟩ := hpg
         have := hcell _ _ hp
         rw [add_none', Nat.zero_add] at this
         exact ⟨this, hy1 _ (List.mem_of_getElem? hp)⟩
       . obtain ⟨h1, h2⟩ := hi p v hp
         exact ⟨by rw [hb.cell (hlt p v hp)]; exact h1, h2⟩
     . simp only
       rw [if_neg (by rintro ⟨h, _⟩; have := hlt p v hp; omega)]
       exact hp
     . simp only at hp
       split at hp
       . rename_i hpg; exact .inr (by omega)
       . exact .inl hp
     . have hyl := j4.1
       have hIV : ∀ (Lc : Nat -> Option Am.Loc), (∀ i l, V.loc i = some l -> Lc i = some l) -> ∀ {x : AV} {u : Value}, Rep V x u -> Rep ⟨fun p => if p.block = g /\ p.spot = none then ys[p.off]? else V.imm p, Lc⟩ x u := fun Lc hLc x u hr => by
         refine Rep.mono (V := V) (V' := ⟨fun p => if p.block = g /\ p.spot = none then ys[p.off]? else V.imm p, Lc⟩) ⟨fun p v hp => ?_, hLc⟩ hr
         show (if p.block = g /\ p.spot = none then ys[p.off]? else V.imm p) = some v
         rw [if_neg (by rintro ⟨h, _⟩; have := hlt p v hp; omega)]
         exact hp
       refine ⟨26, ys, g, cap, rfl, ho, fun off hoff => ?_, ?_, fun Lc g' hLc hg' => ?_⟩
       . simp only [and_self, if_true]
         exact List.getElem?_eq_none (by omega)
       . refine .sl (fun i => ys.getD i undef) (by omega) (by omega) hncap (fun i hi2 => ?_) (fun i x hx => ?_) (.inl rfl)
         . simp only [if_true, and_self, Nat.zero_add]
           rw [List.getD_eq_getElem?_getD, List.getElem?_eq_getElem (by omega)]; rfl
         . obtain ⟨u, hu, hr⟩ := j4.get hx
           rw [List.getD_eq_getElem?_getD, hu]
           exact hIV _ (fun _ _ h => h) hr
       . refine .slo (fun i => ys.getD i undef) (by omega) hncap hg' (fun i hi2 => ?_) (fun i x hx => ?_)
         . simp only [if_true, and_self]
           rw [List.getD_eq_getElem?_getD, List.getElem?_eq_getElem (by omega)]; rfl
         . obtain ⟨u, hu, hr⟩ := j4.get hx
           rw [List.getD_eq_getElem?_getD, hu]
           exact hIV _ hLc hr
theorem concOk : ConOk Tryz.prog 38 concC := con_of 38 (fun _ us => callFunc_run Tryz.func38 rfl rfl us) concat_walk
end Go.Proofs.YtobhofmicgmjfaaGreat
