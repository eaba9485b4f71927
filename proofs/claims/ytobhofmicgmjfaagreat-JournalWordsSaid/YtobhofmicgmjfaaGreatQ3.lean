/- TEXTS OF THE WALKS, put together: JR2 JR3 JR4 JR5 JR6 JR7 JR8 J15 JR9 JL0 JB LBe LWo BG0 BG2. No condition but those stated. -/
import Derived.Test.YtobhofmicgmjfaaGreatQ2
import Derived.Test.YtobhofmicgmjfaaGreatAmOpen
import Derived.Shelf.Spec.SlicesGrow
import Derived.Test.YtobhofmicgmjfaaGreatProg
import Derived.WalkKit
import Derived.BigCall
import Derived.Below
import Derived.Laws.OwnMore
import Derived.Test.YtobhofmicgmjfaaGreatP1
import Derived.Test.YtobhofmicgmjfaaGreatAmTop
import Derived.Test.YtobhofmicgmjfaaGreatChecked
open Int (reduceEq)
open Nat (reduceEqDiff reduceAdd reduceMul reduceLT reduceLeDiff)
set_option linter.all false
set_option maxHeartbeats 4000000
set_option maxRecDepth 10000
namespace Go.Proofs.YtobhofmicgmjfaaGreat
open Go Go.Am Go.Rec Go.Ino
theorem rbody1_px (r : Redo) (ht : RedT r) (hk : r.k = 1) (h1 : 1 <= r.i) (h2 : r.i <= 256) (H : Heap) : pcx (cbL tab) 39 [.agg (redA r)] H = some (prRow 1 u64A (bodyR r)) := by
 have b : bodyR r = r.i :: r.ws := if_pos hk
 rw [b]
 have wn : r.ws ≠ [] := by intro h; have := ht.wl; rw [h] at this; cases this
 have ap := fun tk H => app_e [r.i] r.ws (by simp) (by have := ht.wl; omega) wn tk H
 have rl := fun H => rlist21_px r.ws ht.wl H
 rw [prRow_ne wn] at rl
 have lw := ht.wl
 have el : ([r.i] ++ r.ws).length = 17 := by simp [lw]
 have ol := fun H => own_tok H (r.i :: r.ws) (by simp)
 have e2 := lend_redV r
 refine pcx_N rfl (pc_wp (fi := c39) rfl ?_ (by simp [c39]) (by decide) ?_)
 . simp only [pcOn,List.map_cons,List.map_nil,hfL,hf_lend_sl,hf_lend_int,hf_lend_bool,hf_lend_str,hfL_append,Bool.and_self,Bool.and_true,Bool.true_and,c39,lend_redV,hf_redV]
 rw [List.map_cons,List.map_nil,e2]
 have v1 : IntKind.u64.wrap r.i = r.i := wrap_u64 (by omega) (by omega)
 obtain ⟨w0,w1,w2,w3,w4,w5,w6,w7,w8,w9,w10,w11,w12,w13,w14,w15,hw⟩ := sixteen ht.wl
 have hw2 : encs u64A r.ws = [.int .u64 w0,.int .u64 w1,.int .u64 w2,.int .u64 w3,.int .u64 w4,.int .u64 w5,.int .u64 w6,.int .u64 w7,.int .u64 w8,.int .u64 w9,.int .u64 w10,.int .u64 w11,.int .u64 w12,.int .u64 w13,.int .u64 w14,.int .u64 w15] := by rw [hw]; rfl
 have pr : ∀ H,purify (some (.ret (.sl 1 17 (encs u64A ([r.i] ++ r.ws)) (.own H.length)),H ++ [AObj.tok 1])) = some (prRow 1 u64A (r.i :: r.ws)) := by
   intro H
   have := ol H
   have e17 : (r.i :: r.ws).length = 17 := by simp [lw]
   rw [e17] at this
   exact purify_row (fun _ => rfl) (l := r.i :: r.ws) (by rw [e17]; exact this) (fun e => by cases e)
 unfold arrV at rl
 rw [lw,hw2] at rl
 rw [lw,el,hw2] at ap
 unfold c39 redA
 rw [hw2]
 have es : encs u64A [r.i] = [.int .u64 r.i] := rfl
 rw [es] at ap
 simp only [List.cons_append,List.nil_append,List.length_cons,List.length_nil,Nat.zero_add] at ap ⊢
 simp (disch := omega) only [wk,tupled,↓reduceIte,reduceEqDiff,reduceEq,reduceAdd,reduceCtorEq,hk,rl,v1,ap]
 exact pr [_,_]
theorem rbody2_px (r : Redo) (ht : RedT r) (hk : r.k = 2) (h1 : 1 <= r.i /\ r.i <= 256) (h2 : 1 <= r.fr /\ r.fr <= 256) (h3 : 1 <= r.to /\ r.to <= 256) (h4 : 1 <= r.rc /\ r.rc <= 1024) (H : Heap) :
   pcx (cbL tab) 39 [.agg (redA r)] H = some (.plain (.sl 1 7 (encs u64A (bodyR r)) .ro)) := by
 have b : bodyR r = [r.fr,r.fk,r.to,r.tk,r.rc,r.i,dirI r.dir] := if_neg (by omega)
 rw [b]
 have e2 := lend_redV r
 refine pcx_N rfl (pc_wp (fi := c39) rfl ?_ (by simp [c39]) (by decide) ?_)
 . simp only [pcOn,List.map_cons,List.map_nil,hfL,hf_lend_sl,hf_lend_int,hf_lend_bool,hf_lend_str,hfL_append,Bool.and_self,Bool.and_true,Bool.true_and,c39,lend_redV,hf_redV]
 rw [List.map_cons,List.map_nil,e2]
 obtain ⟨w0,w1,w2,w3,w4,w5,w6,w7,w8,w9,w10,w11,w12,w13,w14,w15,hw⟩ := red_lit ht
 have v1 : IntKind.u64.wrap r.i = r.i := wrap_u64 (by omega) (by omega)
 have v2 : IntKind.u64.wrap r.fr = r.fr := wrap_u64 (by omega) (by omega)
 have v3 : IntKind.u64.wrap r.to = r.to := wrap_u64 (by omega) (by omega)
 have v4 : IntKind.u64.wrap r.rc = r.rc := wrap_u64 (by omega) (by omega)
 have es : encs u64A [r.fr,r.fk,r.to,r.tk,r.rc,r.i,dirI r.dir] = [.int .u64 r.fr,.int .u64 r.fk,.int .u64 r.to,.int .u64 r.tk,.int .u64 r.rc,.int .u64 r.i,.int .u64 (dirI r.dir)] := rfl
 rw [es,hw]
 unfold c39
 cases hd : r.dir
 . have e : dirI false = 0 := rfl
   simp (disch := omega) only [wk,tupled,↓reduceIte,reduceEqDiff,reduceEq,reduceAdd,reduceCtorEq,hk,v1,v2,v3,v4,e,purify,unownT,lend,unown,AV.hf,hfL,Tk.hf]
 . have e : dirI true = 1 := rfl
   simp (disch := omega) only [wk,tupled,↓reduceIte,reduceEqDiff,reduceEq,reduceAdd,reduceCtorEq,hk,v1,v2,v3,v4,e,purify,unownT,lend,unown,AV.hf,hfL,Tk.hf]
theorem mayR_1 {f : Frm} {r : Redo} (h : r.k = 1) : mayR f r ↔ (1 <= r.i /\ r.i <= f.i) /\ fileW r.ws = true /\ r.fr = 0 /\ r.to = 0 /\ r.fk = 0 /\ r.tk = 0 /\ r.rc = 0 /\ r.dir = false := by
 unfold mayR mayB
 constructor
 . rintro ⟨a,b | b⟩
   . exact ⟨a,b.2⟩
   . omega
 . exact fun h1 => ⟨h1.1,.inl ⟨h,h1.2⟩⟩
theorem mayR_2 {f : Frm} {r : Redo} (h : r.k = 2) : mayR f r ↔ (1 <= r.i /\ r.i <= f.i) /\ r.ws = ws0 /\ (1 <= r.fr /\ r.fr <= f.i) /\ (1 <= r.to /\ r.to <= f.i) /\ (1 <= r.rc /\ r.rc <= f.r) /\ (r.fr ≠ r.to ∨ r.fk ≠ r.tk) := by
 unfold mayR
 rw [mayB_2 h]
theorem rcheck21_px {f : Frm} {y : Ly} {r : Redo} (ht : RedT r) (H : Heap) : pcx (cbL tab) 17 [lyV f y,.agg (redA r)] H = some (.plain (.int .i64 (checkJ f y r))) := by
 have lr : ∀ H,pcx (cbL tab) 22 [lyV f y] H = some (.plain (.bool (decide (okY f y)))) := fun H => rright_all f y.k0 y.k1 y.c y.d y.e y.g H
 have wn : r.ws ≠ [] := by intro h; have := ht.wl; rw [h] at this; cases this
 have rl := fun H => rlist21_px r.ws ht.wl H
 rw [prRow_ne wn] at rl
 have hz := ceq_u r.ws ws0 (by rw [ht.wl]; rfl)
 have lw := ht.wl
 refine pcx_N rfl (pc_wp (fi := c17) rfl ?_ (by simp [c17]) (by decide) ?_)
 . simp only [pcOn,List.map_cons,List.map_nil,hfL,hf_lend_sl,hf_lend_int,hf_lend_bool,hf_lend_str,hfL_append,Bool.and_self,Bool.and_true,Bool.true_and,c17,lend_lyV,lend_redV,hf_lyV,hf_redV]
 rw [List.map_cons,List.map_cons,List.map_nil,lend_lyV,lend_redV]
 obtain ⟨w0,w1,w2,w3,w4,w5,w6,w7,w8,w9,w10,w11,w12,w13,w14,w15,hw⟩ := sixteen ht.wl
 have hw2 : encs u64A r.ws = [.int .u64 w0,.int .u64 w1,.int .u64 w2,.int .u64 w3,.int .u64 w4,.int .u64 w5,.int .u64 w6,.int .u64 w7,.int .u64 w8,.int .u64 w9,.int .u64 w10,.int .u64 w11,.int .u64 w12,.int .u64 w13,.int .u64 w14,.int .u64 w15] := by rw [hw]; rfl
 have hu := ht.wu
 rw [hw] at hu
 have wok : WOk w0 w1 w2 w3 [w4,w5,w6,w7,w8,w9,w10,w11,w12,w13,w14,w15] [] :=
   ⟨rfl,hu _ (by simp),hu _ (by simp),hu _ (by simp),hu _ (by simp),fun x hx => hu x (List.mem_cons_of_mem _ (List.mem_cons_of_mem _ (List.mem_cons_of_mem _ (List.mem_cons_of_mem _ hx)))),rfl⟩
 have fw : fileW r.ws = decide ((ofI w0 w1 w2 w3 [w4,w5,w6,w7,w8,w9,w10,w11,w12,w13,w14,w15]).2 = 0 /\ (ofI w0 w1 w2 w3 [w4,w5,w6,w7,w8,w9,w10,w11,w12,w13,w14,w15]).1.kind = 1) := by rw [hw]; rfl
 have op := fun tk H => rofI_px w0 w1 w2 w3 [w4,w5,w6,w7,w8,w9,w10,w11,w12,w13,w14,w15] _ tk H wok
 generalize ofI w0 w1 w2 w3 [w4,w5,w6,w7,w8,w9,w10,w11,w12,w13,w14,w15] = O at fw op
 obtain ⟨n,e⟩ := O
 dsimp only at fw op
 rw [ofIV_eq] at op
 have m1 := (MapR.of n.map).one.1
 have m2 := (MapR.of n.map).one.2
 generalize mapV n.map = M at op m1 m2
 have hq : ∀ xo yo,binV .eql (.struct [0,0,0,0,0,0,0,0,0,0,0,0,0,0,0,0]) xo yo (.agg [.int .u64 w0,.int .u64 w1,.int .u64 w2,.int .u64 w3,.int .u64 w4,.int .u64 w5,.int .u64 w6,.int .u64 w7,.int .u64 w8,.int .u64 w9,.int .u64 w10,.int .u64 w11,.int .u64 w12,.int .u64 w13,.int .u64 w14,.int .u64 w15])
     (.agg [.int .u64 0,.int .u64 0,.int .u64 0,.int .u64 0,.int .u64 0,.int .u64 0,.int .u64 0,.int .u64 0,.int .u64 0,.int .u64 0,.int .u64 0,.int .u64 0,.int .u64 0,.int .u64 0,.int .u64 0,.int .u64 0]) = some (.bool (decide (r.ws = ws0))) := by
   intro xo yo
   rw [lw,hw2] at hz
   show (cellsEq _ _ _).map _ = _
   have hz' : cellsEq [0,0,0,0,0,0,0,0,0,0,0,0,0,0,0,0] [.int .u64 w0,.int .u64 w1,.int .u64 w2,.int .u64 w3,.int .u64 w4,.int .u64 w5,.int .u64 w6,.int .u64 w7,.int .u64 w8,.int .u64 w9,.int .u64 w10,.int .u64 w11,.int .u64 w12,.int .u64 w13,.int .u64 w14,.int .u64 w15]
     [.int .u64 0,.int .u64 0,.int .u64 0,.int .u64 0,.int .u64 0,.int .u64 0,.int .u64 0,.int .u64 0,.int .u64 0,.int .u64 0,.int .u64 0,.int .u64 0,.int .u64 0,.int .u64 0,.int .u64 0,.int .u64 0] = _ := hz
   rw [hz']
   rfl
 have rp : List.replicate 16 (AV.int .u64 0) = [.int .u64 0,.int .u64 0,.int .u64 0,.int .u64 0,.int .u64 0,.int .u64 0,.int .u64 0,.int .u64 0,.int .u64 0,.int .u64 0,.int .u64 0,.int .u64 0,.int .u64 0,.int .u64 0,.int .u64 0,.int .u64 0] := rfl
 unfold arrV at rl
 rw [lw,hw2] at rl
 unfold wlit at op
 simp only [encs_cons,encs_nil,u64A,List.cons_append,List.nil_append] at op
 unfold inoA at op
 unfold c17
 rw [rp]
 unfold checkJ redA
 rw [hw2]
 have i0 := fun H => rthere21_px r.i f.i H
 have i1 := fun H => rthere21_px r.fr f.i H
 have i2 := fun H => rthere21_px r.to f.i H
 have i3 := fun H => rthere21_px r.rc f.r H
 clear hz hw hw2 rp hu wok wn ht lw
 by_cases h : okY f y
 case neg =>
   rw [decide_eq_false h] at lr
   rw [if_neg h]
   clear h
   unfold lyV lyA frmA at *
   simp only [List.cons_append,List.nil_append] at lr ⊢
   simp (disch := omega) only [wk,tupled,↓reduceIte,reduceEqDiff,reduceEq,reduceAdd,reduceCtorEq,lr,purify,unownT,lend,unown,AV.hf,hfL,Tk.hf]
 rw [decide_eq_true h] at lr
 rw [if_pos h]
 clear h
 unfold lyV lyA frmA at *
 simp only [List.cons_append,List.nil_append] at lr ⊢
 by_cases k1 : r.k = 1
 . have hm := mayR_1 (f := f) k1
   by_cases c0 : 1 <= r.i /\ r.i <= f.i
   case neg =>
     have no : ¬ mayR f r := fun h => c0 (hm.1 h).1
     rw [if_neg no]
     rw [decide_eq_false c0] at i0
     clear no hm c0
     simp (disch := omega) only [wk,tupled,↓reduceIte,reduceEqDiff,reduceEq,reduceAdd,reduceCtorEq,lr,rl,op,m1,m2,runG_un,hq,k1,i0,purify,unownT,lend,unown,AV.hf,hfL,Tk.hf]
   rw [decide_eq_true c0] at i0
   by_cases c1 : e = 0
   case neg =>
     have no : ¬ mayR f r := fun h => by have := (hm.1 h).2.1; rw [fw] at this; exact c1 (of_decide_eq_true this).1
     rw [if_neg no]
     clear no hm
     simp (disch := omega) only [wk,tupled,↓reduceIte,reduceEqDiff,reduceEq,reduceAdd,reduceCtorEq,lr,rl,op,m1,m2,runG_un,hq,k1,i0,c1,purify,unownT,lend,unown,AV.hf,hfL,Tk.hf]
   by_cases c2 : n.kind = 1
   case neg =>
     have no : ¬ mayR f r := fun h => by have := (hm.1 h).2.1; rw [fw] at this; exact c2 (of_decide_eq_true this).2
     rw [if_neg no]
     clear no hm
     simp (disch := omega) only [wk,tupled,↓reduceIte,reduceEqDiff,reduceEq,reduceAdd,reduceCtorEq,lr,rl,op,m1,m2,runG_un,hq,k1,i0,c1,c2,purify,unownT,lend,unown,AV.hf,hfL,Tk.hf]
   by_cases c3 : r.fr = 0
   case neg =>
     have no : ¬ mayR f r := fun h => c3 (hm.1 h).2.2.1
     rw [if_neg no]
     clear no hm
     simp (disch := omega) only [wk,tupled,↓reduceIte,reduceEqDiff,reduceEq,reduceAdd,reduceCtorEq,lr,rl,op,m1,m2,runG_un,hq,k1,i0,c1,c2,c3,purify,unownT,lend,unown,AV.hf,hfL,Tk.hf]
   by_cases c4 : r.to = 0
   case neg =>
     have no : ¬ mayR f r := fun h => c4 (hm.1 h).2.2.2.1
     rw [if_neg no]
     clear no hm
     simp (disch := omega) only [wk,tupled,↓reduceIte,reduceEqDiff,reduceEq,reduceAdd,reduceCtorEq,lr,rl,op,m1,m2,runG_un,hq,k1,i0,c1,c2,c3,c4,purify,unownT,lend,unown,AV.hf,hfL,Tk.hf]
   by_cases c5 : r.fk = 0
   case neg =>
     have no : ¬ mayR f r := fun h => c5 (hm.1 h).2.2.2.2.1
     rw [if_neg no]
     clear no hm
     simp (disch := omega) only [wk,tupled,↓reduceIte,reduceEqDiff,reduceEq,reduceAdd,reduceCtorEq,lr,rl,op,m1,m2,runG_un,hq,k1,i0,c1,c2,c3,c4,c5,purify,unownT,lend,unown,AV.hf,hfL,Tk.hf]
   by_cases c6 : r.tk = 0
   case neg =>
     have no : ¬ mayR f r := fun h => c6 (hm.1 h).2.2.2.2.2.1
     rw [if_neg no]
     clear no hm
     simp (disch := omega) only [wk,tupled,↓reduceIte,reduceEqDiff,reduceEq,reduceAdd,reduceCtorEq,lr,rl,op,m1,m2,runG_un,hq,k1,i0,c1,c2,c3,c4,c5,c6,purify,unownT,lend,unown,AV.hf,hfL,Tk.hf]
   by_cases c7 : r.rc = 0
   case neg =>
     have no : ¬ mayR f r := fun h => c7 (hm.1 h).2.2.2.2.2.2.1
     rw [if_neg no]
     clear no hm
     simp (disch := omega) only [wk,tupled,↓reduceIte,reduceEqDiff,reduceEq,reduceAdd,reduceCtorEq,lr,rl,op,m1,m2,runG_un,hq,k1,i0,c1,c2,c3,c4,c5,c6,c7,purify,unownT,lend,unown,AV.hf,hfL,Tk.hf]
   by_cases c8 : r.dir = false
   case neg =>
     have no : ¬ mayR f r := fun h => c8 (hm.1 h).2.2.2.2.2.2.2
     rw [if_neg no]
     clear no hm
     simp (disch := omega) only [wk,tupled,↓reduceIte,reduceEqDiff,reduceEq,reduceAdd,reduceCtorEq,lr,rl,op,m1,m2,runG_un,hq,k1,i0,c1,c2,c3,c4,c5,c6,c7,Bool.not_eq_false,c8,purify,unownT,lend,unown,AV.hf,hfL,Tk.hf]
   have yes : mayR f r := hm.2 ⟨c0,by rw [fw]; exact decide_eq_true ⟨c1,c2⟩,c3,c4,c5,c6,c7,c8⟩
   rw [if_pos yes]
   clear yes hm c0
   simp (disch := omega) only [wk,tupled,↓reduceIte,reduceEqDiff,reduceEq,reduceAdd,reduceCtorEq,lr,rl,op,m1,m2,runG_un,hq,k1,i0,c1,c2,c3,c4,c5,c6,c7,c8,Bool.not_false,purify,unownT,lend,unown,AV.hf,hfL,Tk.hf]
 by_cases k2 : r.k = 2
 . have hm := mayR_2 (f := f) k2
   by_cases c0 : 1 <= r.i /\ r.i <= f.i
   case neg =>
     have no : ¬ mayR f r := fun h => c0 (hm.1 h).1
     rw [if_neg no]
     rw [decide_eq_false c0] at i0
     clear no hm c0 k1
     simp (disch := omega) only [wk,tupled,↓reduceIte,reduceEqDiff,reduceEq,reduceAdd,reduceCtorEq,lr,rl,op,m1,m2,runG_un,hq,k2,i0,purify,unownT,lend,unown,AV.hf,hfL,Tk.hf]
   rw [decide_eq_true c0] at i0
   by_cases c1 : r.ws = ws0
   case neg =>
     have no : ¬ mayR f r := fun h => c1 (hm.1 h).2.1
     rw [if_neg no]
     rw [decide_eq_false c1] at hq
     clear no hm c1 c0 k1
     simp (disch := omega) only [wk,tupled,↓reduceIte,reduceEqDiff,reduceEq,reduceAdd,reduceCtorEq,lr,rl,op,m1,m2,runG_un,hq,k2,i0,purify,unownT,lend,unown,AV.hf,hfL,Tk.hf]
   rw [decide_eq_true c1] at hq
   by_cases c2 : 1 <= r.fr /\ r.fr <= f.i
   case neg =>
     have no : ¬ mayR f r := fun h => c2 (hm.1 h).2.2.1
     rw [if_neg no]
     rw [decide_eq_false c2] at i1
     clear no hm c2 c0 k1
     simp (disch := omega) only [wk,tupled,↓reduceIte,reduceEqDiff,reduceEq,reduceAdd,reduceCtorEq,lr,rl,op,m1,m2,runG_un,hq,k2,i0,i1,purify,unownT,lend,unown,AV.hf,hfL,Tk.hf]
   rw [decide_eq_true c2] at i1
   by_cases c3 : 1 <= r.to /\ r.to <= f.i
   case neg =>
     have no : ¬ mayR f r := fun h => c3 (hm.1 h).2.2.2.1
     rw [if_neg no]
     rw [decide_eq_false c3] at i2
     clear no hm c3 c0 k1
     simp (disch := omega) only [wk,tupled,↓reduceIte,reduceEqDiff,reduceEq,reduceAdd,reduceCtorEq,lr,rl,op,m1,m2,runG_un,hq,k2,i0,i1,i2,purify,unownT,lend,unown,AV.hf,hfL,Tk.hf]
   rw [decide_eq_true c3] at i2
   by_cases c4 : 1 <= r.rc /\ r.rc <= f.r
   case neg =>
     have no : ¬ mayR f r := fun h => c4 (hm.1 h).2.2.2.2.1
     rw [if_neg no]
     rw [decide_eq_false c4] at i3
     clear no hm c4 c0 k1
     simp (disch := omega) only [wk,tupled,↓reduceIte,reduceEqDiff,reduceEq,reduceAdd,reduceCtorEq,lr,rl,op,m1,m2,runG_un,hq,k2,i0,i1,i2,i3,purify,unownT,lend,unown,AV.hf,hfL,Tk.hf]
   rw [decide_eq_true c4] at i3
   by_cases c5 : r.fr = r.to
   . by_cases c6 : r.fk = r.tk
     . have no : ¬ mayR f r := fun h => by rcases (hm.1 h).2.2.2.2.2 with h | h; exact h c5; exact h c6
       rw [if_neg no]
       clear no hm k1
       simp (disch := omega) only [wk,tupled,↓reduceIte,reduceEqDiff,reduceEq,reduceAdd,reduceCtorEq,lr,rl,op,m1,m2,runG_un,hq,k2,i0,i1,i2,i3,c5,c6,purify,unownT,lend,unown,AV.hf,hfL,Tk.hf]
     . have yes : mayR f r := hm.2 ⟨c0,c1,c2,c3,c4,.inr c6⟩
       rw [if_pos yes]
       clear yes hm k1 c0 c1 c2 c3 c4
       simp (disch := omega) only [wk,tupled,↓reduceIte,reduceEqDiff,reduceEq,reduceAdd,reduceCtorEq,lr,rl,op,m1,m2,runG_un,hq,k2,i0,i1,i2,i3,c5,c6,purify,unownT,lend,unown,AV.hf,hfL,Tk.hf]
   . have yes : mayR f r := hm.2 ⟨c0,c1,c2,c3,c4,.inl c5⟩
     rw [if_pos yes]
     clear yes hm k1 c0 c1 c2 c3 c4
     simp (disch := omega) only [wk,tupled,↓reduceIte,reduceEqDiff,reduceEq,reduceAdd,reduceCtorEq,lr,rl,op,m1,m2,runG_un,hq,k2,i0,i1,i2,i3,c5,purify,unownT,lend,unown,AV.hf,hfL,Tk.hf]
 have no : ¬ mayR f r := fun h => by rcases mayB_k h.2 with h | h; exact k1 h; exact k2 h
 rw [if_neg no]
 clear no
 simp (disch := omega) only [wk,tupled,↓reduceIte,reduceEqDiff,reduceEq,reduceAdd,reduceCtorEq,lr,rl,op,m1,m2,runG_un,hq,i0,k1,k2,purify,unownT,lend,unown,AV.hf,hfL,Tk.hf]
theorem rwords21_px {f : Frm} {y : Ly} {r : Redo} (ht : RedT r) (H : Heap) : pcx (cbL tab) 15 [lyV f y,.agg (redA r)] H = some (.plain (wordsJV f y r)) := by
 have cp := fun H => rcheck21_px (f := f) (y := y) ht H
 refine pcx_N rfl (pc_wp (fi := c15) rfl ?_ (by simp [c15]) (by decide) ?_)
 . simp only [pcOn,List.map_cons,List.map_nil,hfL,hf_lend_sl,hf_lend_int,hf_lend_bool,hf_lend_str,hfL_append,Bool.and_self,Bool.and_true,Bool.true_and,c15,lend_lyV,lend_redV,hf_lyV,hf_redV]
 rw [List.map_cons,List.map_cons,List.map_nil,lend_lyV,lend_redV]
 unfold wordsJV wordsJ
 obtain ⟨w0,w1,w2,w3,w4,w5,w6,w7,w8,w9,w10,w11,w12,w13,w14,w15,hw⟩ := red_lit ht
 by_cases h : checkJ f y r = 0
 case neg =>
   rw [if_neg h]
   have e : slvR 1 u64A ([] : List Int) = .sl 0 0 [] .z := rfl
   rw [e]
   rw [hw] at cp ⊢
   unfold c15
   unfold lyV lyA frmA at *
   simp only [List.cons_append,List.nil_append] at cp ⊢
   simp (disch := omega) only [wk,tupled,↓reduceIte,reduceEqDiff,reduceEq,reduceAdd,reduceCtorEq,cp,h,purify,unownT,lend,unown,AV.hf,hfL,Tk.hf]
 obtain ⟨ho,hm,_⟩ := rightJ_1 h
 rw [if_pos h,h]
 rw [h] at cp
 have pl := plainR_len ht
 have pu := plainR_u ht ho.1 hm
 have pn : plainR r ≠ [] := by unfold plainR; simp
 have hb : bodyR r ≠ [] := by unfold bodyR; split <;> simp
 have pl2 : (plainR r).length <= 18 := by rw [pl]; split <;> omega
 have e1 : (plainR r).length = (bodyR r).length + 1 := by unfold plainR; simp
 have fi := ho.1.2.2.2.1
 have fr := ho.1.2.2.2.2.2.2.1
 have rb : (∀ H,pcx (cbL tab) 39 [.agg (redA r)] H = some (prRow 1 u64A (bodyR r))) ∨ (∀ H,pcx (cbL tab) 39 [.agg (redA r)] H = some (.plain (.sl 1 (bodyR r).length (encs u64A (bodyR r)) .ro))) := by
   obtain ⟨⟨a1,a2⟩,hB⟩ := hm
   rcases hB with ⟨k1,_⟩ | ⟨k2,_,b1,b2,b3,_⟩
   . exact .inl (fun H => rbody1_px r ht k1 a1 (by omega) H)
   . refine .inr (fun H => ?_)
     have b : (bodyR r).length = 7 := by unfold bodyR; rw [if_neg (by omega)]; rfl
     rw [b]
     exact rbody2_px r ht k2 ⟨a1,by omega⟩ ⟨b1.1,by omega⟩ ⟨b2.1,by omega⟩ ⟨b3.1,by omega⟩ H
 rw [prRow_ne hb] at rb
 have hk : IntKind.u64.wrap r.k = r.k := by rcases mayB_k hm.2 with h | h <;> rw [h] <;> rfl
 have bl : (bodyR r).length <= 17 := by omega
 have vl : IntKind.u64.wrap ((bodyR r).length : Int) = ((bodyR r).length : Int) := wrap_u64 (by omega) (by omega)
 have vh : r.k + 256 * ((bodyR r).length : Int) = headR r := by
   have : (bodyR r).length = if r.k = 1 then 17 else 7 := by split at pl <;> rename_i hh <;> simp only [hh,if_true,if_false] <;> omega
   unfold headR
   rcases mayB_k hm.2 with h | h
   . rw [this,if_pos h,if_pos h,h]; rfl
   . rw [this,if_neg (by omega),if_neg (by omega),h]; rfl
 have kb : 0 <= r.k /\ r.k <= 2 := by rcases mayB_k hm.2 with h | h <;> omega
 obtain ⟨kb0,kb1⟩ := kb
 have ap := fun tk H => app_e [headR r] (bodyR r) (by simp) (by omega) hb tk H
 have sp := fun g H => rseal_px pn (by omega) pu (tk := .own g) (.inr ⟨g,rfl⟩) H
 have pc0 : [headR r] ++ bodyR r = plainR r := rfl
 rw [pc0] at ap
 have es : sealM (plainR r) = wordsR r := rfl
 have eh : encs u64A [headR r] = [.int .u64 (headR r)] := rfl
 rw [es] at sp
 rw [eh] at ap
 simp only [List.length_cons,List.length_nil,Nat.zero_add] at ap
 have sn : wordsR r ≠ [] := by unfold wordsR sealM; simp
 have sv : slvR 1 u64A (wordsR r) = .sl 1 (wordsR r).length (encs u64A (wordsR r)) .ro := by
   unfold slvR
   have : (wordsR r).isEmpty = false := by cases hh : wordsR r with
     | nil => exact absurd hh sn
     | cons _ _ => rfl
   rw [this]; rfl
 have hfw : hfL (encs u64A (wordsR r)) = true := hf_u64A _
 rw [sv]
 rw [hw] at cp rb ⊢
 have w1 : IntKind.u64.wrap (256 * ((bodyR r).length : Int)) = 256 * ((bodyR r).length : Int) := wrap_u64 (by omega) (by omega)
 have w2 : IntKind.u64.wrap (r.k + 256 * ((bodyR r).length : Int)) = headR r := by rw [<- vh]; exact wrap_u64 (by omega) (by omega)
 generalize wordsR r = W at *
 generalize bodyR r = B at *
 generalize plainR r = P at *
 clear h ho hm pl pu hw
 unfold c15
 unfold lyV lyA frmA at *
 simp only [List.cons_append,List.nil_append] at cp rb ⊢
 rcases rb with rb | rb
 . simp (disch := omega) only [wk,tupled,↓reduceIte,reduceEqDiff,reduceEq,reduceAdd,reduceCtorEq,cp,rb,hk,vl,w1,w2,vh,ap,sp,purify,unownT,lend,unown,AV.hf,hfL,Tk.hf,hfw]
 . simp (disch := omega) only [wk,tupled,↓reduceIte,reduceEqDiff,reduceEq,reduceAdd,reduceCtorEq,cp,rb,hk,vl,w1,w2,vh,ap,sp,purify,unownT,lend,unown,AV.hf,hfL,Tk.hf,hfw]
def smallM (l : List Int) : Bool := l.all fun x => decide (x < 2147483648)
def stF (at' : Int) (j : Nat) : List Int -> List (Int × Int)
 | [] => []
 | x :: r => (at' + 1 + (j : Int),x) :: stF at' (j + 1) r
def storesM (at' : Int) (w : List Int) : List (Int × Int) := stF at' 0 (w.drop 1) ++ [(at',w.headD 0)]
def storesJ (f : Frm) (y : Ly) (n : Int) (r : Redo) : List (Int × Int) × Int :=
 if clientJ f y n then (if mayR f r then (storesM (64 + n * 64) (wordsR r),0) else ([],310)) else ([],2)
theorem samePuts_pc (l m : List (Int × Int)) (s1 s2 : Nat) (t1 t2 : Tk) (hz1 : l ≠ [] -> s1 = 2) (hz2 : m ≠ [] -> s2 = 2) (hl : (l.length : Int) < 9223372036854775807) : (cbL tab).pc 21 [.sl s1 l.length (encs putA l) t1,.sl s2 m.length (encs putA m) t2] = some (.plain (.bool (decide (l = m)))) := by
 obtain ⟨u1,e1,f1⟩ := lend_sl s1 l.length (encs putA l) t1
 obtain ⟨u2,e2,f2⟩ := lend_sl s2 m.length (encs putA m) t2
 refine pc_wp (fi := c21) rfl ?_ (by simp [c21]) (by decide) ?_
 . simp only [pcOn,List.map_cons,List.map_nil,hfL,hf_lend_sl,hf_lend_int,hf_lend_bool,hf_lend_str,hfL_append,Bool.and_self,Bool.and_true,Bool.true_and,c21,hf_putA]
 unfold c21
 rw [List.map_cons,List.map_cons,List.map_nil,e1,e2]
 by_cases h : (l.length : Int) = m.length
 case neg =>
   have h' : ¬ l = m := fun e => h (by rw [e])
   simp (disch := omega) only [wk,tupled,↓reduceIte,reduceEqDiff,reduceEq,reduceAdd,reduceCtorEq,h,purify,unownT,lend,unown,AV.hf,h']
 simp (disch := omega) only [wk,tupled,↓reduceIte,reduceEqDiff,reduceEq,reduceAdd,reduceCtorEq]
 refine loop_ind (fun (x : List (Int × Int) × List (Int × Int) × List (Int × Int)) E df H => l = x.1 ++ x.2.1 /\ m = x.1 ++ x.2.2 /\ E 0 = .sl s1 l.length (encs putA l) u1 /\ E 1 = .sl s2 m.length (encs putA m) u2 /\ E 5 = .int .i64 (x.1.length : Nat) /\ df = [] /\ H = [])
   (fun x => x.2.1.length) ([],l,m) (by decide) (.inl rfl) ⟨rfl,rfl,rfl,rfl,rfl,rfl,rfl⟩ ?_
 intro ⟨pre,q1,q2⟩ E df H ih hP
 obtain ⟨a1,a2,E0,E1,E5,hdf,hH⟩ := hP
 dsimp only at a1 a2 E5
 subst hdf hH a1 a2
 simp only [List.length_append] at h hl
 cases q1 with
 | nil =>
   cases q2 with
   | nil => simp (disch := omega) only [wk,tupled,↓reduceIte,reduceEqDiff,reduceEq,reduceAdd,reduceCtorEq,E0,E1,E5,purify,unownT,lend,unown,AV.hf]
   | cons _ _ => exfalso; simp only [List.length_nil,List.length_cons] at h; omega
 | cons x r1 =>
   cases q2 with
   | nil => exfalso; simp only [List.length_nil,List.length_cons] at h; omega
   | cons y r2 =>
     simp only [List.length_cons] at h hl
     obtain rfl := hz1 (by simp)
     obtain rfl := hz2 (by simp)
     obtain ⟨x1,x2⟩ := x
     obtain ⟨y1,y2⟩ := y
     simp (disch := omega) only [wk,tupled,↓reduceIte,reduceEqDiff,reduceEq,reduceAdd,reduceCtorEq,E0,E1,E5,putA]
     by_cases hxy : x1 = y1 /\ x2 = y2
     . obtain ⟨rfl,rfl⟩ := hxy
       simp (disch := omega) only [wk,tupled,↓reduceIte,reduceEqDiff,reduceEq,reduceAdd,reduceCtorEq,E0,E1,E5]
       refine ih (pre ++ [(x1,x2)],r1,r2) _ _ _ (by simp) ?_
       exact ⟨by simp,by simp,by simp only [en,↓reduceIte,reduceEqDiff,E0],by simp only [en,↓reduceIte,reduceEqDiff,E1],by simp only [en,↓reduceIte,reduceEqDiff],rfl,rfl⟩
     . have h' : ¬ (pre ++ (x1,x2) :: r1 = pre ++ (y1,y2) :: r2) := by
         intro e
         simp only [List.append_cancel_left_eq,List.cons.injEq,Prod.mk.injEq] at e
         exact hxy e.1
       simp (disch := omega) only [wk,tupled,↓reduceIte,reduceEqDiff,reduceEq,reduceAdd,reduceCtorEq,hxy,purify,unownT,lend,unown,AV.hf,h']
theorem jnum_px (n : Int) (H : Heap) : pcx (cbL tab) 12 [.int .i64 n] H = some (.plain (.int .i64 n)) := by
 refine pcx_N rfl (pc_wp (fi := c12) rfl rfl (by simp [c12]) (by decide) ?_)
 unfold c12
 rw [List.map_cons,List.map_nil,lend_int]
 simp (disch := omega) only [wk,tupled,↓reduceIte,reduceEqDiff,reduceEq,reduceAdd,reduceCtorEq,purify,unownT,lend,unown,AV.hf,hfL,Tk.hf]
def fr0 : Frm := ⟨32,8,16,8⟩
def ly0 : Ly := ⟨1,2,9,11,15,16⟩
theorem ly0_t : LyT ly0 := ⟨(⟨by decide,by decide⟩ : U64 1),(⟨by decide,by decide⟩ : U64 2)⟩
theorem home_px (H : Heap) : pcx (cbL tab) 23 [] H = some (.plain (lyV fr0 ly0)) := by
 have rp := fun H => rof_px fr0 1 2 H
 rw [if_pos (by decide)] at rp
 refine pcx_N rfl (pc_wp (fi := c23) rfl rfl (by simp [c23]) (by decide) ?_)
 unfold c23
 have e : AV.agg (layA fr0 1 2) = lyV fr0 ly0 := rfl
 rw [e] at rp
 unfold lyV lyA frmA fr0 ly0 at *
 simp only [List.cons_append,List.nil_append] at rp ⊢
 rw [List.map_nil]
 simp (disch := omega) only [wk,tupled,↓reduceIte,reduceEqDiff,reduceEq,reduceAdd,reduceCtorEq,rp,purify,unownT,lend,unown,AV.hf,hfL,Tk.hf]
def re0 : Redo := ⟨2,5,ws0,1,1,2,3,4,false⟩
theorem re0_t : RedT re0 := ⟨by decide,by decide,by decide,by decide,rfl,fun x hx => by have := (List.mem_replicate.1 hx).2; subst this; exact ⟨by decide,by decide⟩,by decide,by decide,by decide,by decide,(⟨by decide,by decide⟩ : U64 2),(⟨by decide,by decide⟩ : U64 3),by decide,by decide⟩
theorem jworks_px (H : Heap) : pcx (cbL tab) 8 [] H = some (.plain (.bool true)) := by
 have hp := fun H => home_px H
 have wp := fun H => jwords_px (f := fr0) ly0_t re0_t H
 have ck : checkJ fr0 ly0 re0 = 0 := by decide
 have sp := fun H => jstrike_px fr0 ly0 2 H
 have se : strikeJ fr0 ly0 2 = ([(192,0)],0) := if_pos (by decide)
 rw [se] at sp
 have np := fun n H => jnum_px n H
 obtain ⟨z,hz⟩ : ∃ z : Int,z = moreM 0 (bytM (plainR re0)) := ⟨_,rfl⟩
 have we : wordsJV fr0 ly0 re0 = .tup [.sl 1 9 [.int .u64 1794,.int .u64 1,.int .u64 2,.int .u64 1,.int .u64 3,.int .u64 4,.int .u64 5,.int .u64 0,.int .u64 z] .ro,.int .i64 0] := by
   unfold wordsJV wordsJ
   rw [if_pos ck,ck]
   have : wordsR re0 = [1794,1,2,1,3,4,5,0,z] := by rw [hz]; rfl
   rw [this]
   rfl
 rw [we] at wp
 have o0 : ∀ l : List Int,l.length = 64 -> l.getD 0 0 = 0 -> outJ fr0 ly0 l = (red0,false,0) := fun l h1 h2 => by
   unfold outJ
   rw [if_pos (by decide)]
   unfold ofW
   rw [if_neg (fun h => h h1),if_pos h2]
 have o1 : ∀ l : List Int,l.length = 64 -> l.getD 0 0 = 1 -> outJ fr0 ly0 l = (red0,false,310) := fun l h1 h2 => by
   unfold outJ
   rw [if_pos (by decide)]
   unfold ofW
   rw [if_neg (fun h => h h1),if_neg (by rw [h2]; decide),if_neg]
   rintro ⟨h,_⟩
   rw [h2] at h
   rcases h with h | ⟨h,_⟩ <;> cases h
 have er : repL 64 [AV.int .u64 0] = encs u64A (List.replicate 64 0) := rfl
 have hu : ∀ x ∈ (List.replicate 64 0 : List Int),U64 x := fun x hx => by have := (List.mem_replicate.1 hx).2; subst this; exact ⟨by decide,by decide⟩
 have hu1 : ∀ x ∈ (1 :: List.replicate 63 0 : List Int),U64 x := fun x hx => by
   rcases List.mem_cons.1 hx with rfl | hx
   . exact ⟨by decide,by decide⟩
   . have := (List.mem_replicate.1 hx).2; subst this; exact ⟨by decide,by decide⟩
 have p0 : ∀ H,pcx (cbL tab) 10 [lyV fr0 ly0,.sl 1 (List.replicate 64 0 : List Int).length (encs u64A (List.replicate 64 0) ++ []) .e] H = some (.plain (outV (outJ fr0 ly0 (List.replicate 64 0)))) := fun H =>
   pcx_L rfl (by rw [List.map_cons,List.map_cons,List.map_nil,lendK_sl]; rfl) (jof_1 (f := fr0) ly0_t (List.replicate 64 0) [] 1 .e (fun _ => rfl) rfl rfl hu (by decide) (.inr (.inr (.inl ⟨by decide,rfl,rfl⟩)))) (bare_out _)
 have p1 := fun H v hv => jof_px' (f := fr0) ly0_t (1 :: List.replicate 63 0) [] 1 .ro (.inl rfl) (fun _ => rfl) rfl rfl hu1 (by decide) H v hv
 rw [o0 _ rfl rfl] at p0
 rw [o1 _ rfl rfl] at p1
 refine pcx_N rfl (pc_wp (fi := c8) rfl rfl (by simp [c8]) (by decide) ?_)
 unfold c8
 rw [List.map_nil]
 unfold outV at p0 p1
 unfold putsV at sp
 have e1 : slvR 2 putA [((192 : Int),(0 : Int))] = .sl 2 1 [.int .i64 192,.int .u64 0] .ro := rfl
 rw [e1] at sp
 have ra : redA re0 = [.int .i64 2,.int .i64 5,.int .u64 0,.int .u64 0,.int .u64 0,.int .u64 0,.int .u64 0,.int .u64 0,.int .u64 0,.int .u64 0,.int .u64 0,.int .u64 0,.int .u64 0,.int .u64 0,.int .u64 0,.int .u64 0,.int .u64 0,.int .u64 0,.int .i64 1,.int .i64 1,.int .u64 2,.int .u64 3,.int .i64 4,.bool false] := rfl
 rw [ra] at wp
 rw [red0_lit] at p0 p1
 dsimp only at p0 p1 sp
 have q0 : (List.replicate 64 0 : List Int).length = 64 := rfl
 rw [q0,List.append_nil] at p0
 generalize hR : encs u64A (List.replicate 64 0) = R at *
 have lR : R.length = 64 := by rw [<- hR]; rfl
 have oR : allOne R = true := by rw [<- hR]; rfl
 unfold lyV lyA frmA fr0 ly0 at hp wp sp p0 p1
 simp only [List.cons_append,List.nil_append] at hp wp sp p0 p1
 have j64 : (64 : Int).toNat = 64 := rfl
 have j192 : (8 : Int).toNat = 8 := rfl
 have le0 : (0 : Int) <= 64 := by decide
 have lk : ∀ H : Heap,H[1]? = some (.cells (AV.int .u64 1 :: List.drop 1 R)) -> lendK H 4 (.msl 1 1 0 64) = .sl 1 (1 :: List.replicate 63 0 : List Int).length (encs u64A (1 :: List.replicate 63 0) ++ []) .ro := fun H h => by
   show (match H[1]? with
     | some (AObj.cells cs) => if 0 + 64 * 1 <= cs.length then AV.sl 1 64 (((cs.drop 0).take (64 * 1)).map (lendK H 3)) .ro else AV.msl 1 1 0 64
     | _ => AV.msl 1 1 0 64) = _
   rw [h,<- hR]
   rfl
 have p2 := fun z0 : AObj => p1 [z0,.cells (AV.int .u64 1 :: List.drop 1 R)] _ (lk _ rfl)
 have sm := fun H => same_px [1794,1,2,1,3,4,5,0] [1794,1,2,1,3,4,5,0] [.int .u64 z] [] 1 1 .ro .ro H (by decide) (by decide) (fun _ => rfl) (fun _ => rfl) rfl rfl
 have sq := fun H => pcx_N (H := H) rfl (samePuts_pc [(192,0)] [(192,0)] 2 2 .ro .ro (fun _ => rfl) (fun _ => rfl) (by decide))
 rw [decide_eq_true rfl] at sm sq
 have es : encs u64A ([1794,1,2,1,3,4,5,0] : List Int) = [.int .u64 1794,.int .u64 1,.int .u64 2,.int .u64 1,.int .u64 3,.int .u64 4,.int .u64 5,.int .u64 0] := rfl
 have ep : encs putA [((192 : Int),(0 : Int))] = [.int .i64 192,.int .u64 0] := rfl
 rw [es] at sm
 rw [ep] at sq
 simp only [List.length_cons,List.length_nil,Nat.zero_add,List.append_nil,List.cons_append,List.nil_append,Nat.reduceAdd] at sm sq
 have rp8 : List.replicate 8 (AV.int .u64 0) = [.int .u64 0,.int .u64 0,.int .u64 0,.int .u64 0,.int .u64 0,.int .u64 0,.int .u64 0,.int .u64 0] := rfl
 have c9 : ((9 : Nat) : Int) = 9 := rfl
 simp (disch := omega) only [wk,tupled,↓reduceIte,reduceEqDiff,reduceEq,reduceAdd,reduceCtorEq,hp,wp,p0,madeN,er,sp,np,j64,le0,lR,oR,hR,red0_lit,Int.toNat_zero,Nat.zero_add,p2,sm,sq,rp8,j192,c9,Int.reduceToNat,Int.reduceAdd,Int.reduceSub,Int.reduceMul,Int.reduceNeg,Nat.reduceSub,Nat.reduceDiv,purify,unownT,lend,unown,AV.hf,hfL,Tk.hf]
def frm0 : Frm := ⟨0,0,0,0⟩
def lawF (f : Frm) : Frm := if okF f then f else frm0
def lawY (f : Frm) (b : Bool) : Ly :=
 if okF f then ⟨3,4,9,9 + f.i / 4,9 + f.i / 4 + f.r / 4 + (if b then 1 else 0),9 + f.i / 4 + f.r / 4 + 1⟩ else ⟨0,0,0,0,if b then 1 else 0,0⟩
theorem lawY_t (f : Frm) (b : Bool) : LyT (lawY f b) := by
 unfold lawY
 split
 . exact ⟨(⟨by decide,by decide⟩ : U64 3),(⟨by decide,by decide⟩ : U64 4)⟩
 . exact ⟨(⟨by decide,by decide⟩ : U64 0),(⟨by decide,by decide⟩ : U64 0)⟩
theorem llay_px (f : Frm) (b : Bool) (H : Heap) : pcx (cbL tab) 9 [.agg (frmA f),.bool b] H = some (.plain (lyV (lawF f) (lawY f b))) := by
 have rp := fun H => rof_px f 3 4 H
 refine pcx_N rfl (pc_wp (fi := c9) rfl rfl (by simp [c9]) (by decide) ?_)
 unfold c9
 have lf : lend (.agg (frmA f)) = .agg (frmA f) := rfl
 have lb : lend (.bool b) = .bool b := rfl
 rw [List.map_cons,List.map_cons,List.map_nil,lf,lb]
 unfold lawF lawY lyV lyA
 by_cases h : okF f
 . rw [if_pos h] at rp
   rw [if_pos h,if_pos h]
   obtain ⟨_,_,h3,h4,_,h6,h7,_⟩ := h
   unfold layA frmA at *
   simp only [List.cons_append,List.nil_append] at rp ⊢
   cases b
   . simp (disch := omega) only [wk,tupled,↓reduceIte,reduceEqDiff,reduceEq,reduceAdd,reduceCtorEq,rp,purify,unownT,lend,unown,AV.hf,hfL,Tk.hf,Int.add_zero]
   . have e : IntKind.i64.wrap (9 + f.i / 4 + f.r / 4 + 1) = 9 + f.i / 4 + f.r / 4 + 1 := wrap_i64 (by omega) (by omega)
     simp (disch := omega) only [wk,tupled,↓reduceIte,reduceEqDiff,reduceEq,reduceAdd,reduceCtorEq,rp,purify,unownT,lend,unown,AV.hf,hfL,Tk.hf]
 . rw [if_neg h] at rp
   rw [if_neg h,if_neg h]
   unfold lyz at rp
   unfold frm0 frmA at *
   simp only [List.cons_append,List.nil_append] at rp ⊢
   cases b
   . simp (disch := omega) only [wk,tupled,↓reduceIte,reduceEqDiff,reduceEq,reduceAdd,reduceCtorEq,rp,purify,unownT,lend,unown,AV.hf,hfL,Tk.hf]
   . simp (disch := omega) only [wk,tupled,↓reduceIte,reduceEqDiff,reduceEq,reduceAdd,reduceCtorEq,rp,Int.reduceToNat,Int.reduceAdd,Int.reduceSub,Int.reduceMul,Int.reduceNeg,Nat.reduceSub,Nat.reduceDiv,purify,unownT,lend,unown,AV.hf,hfL,Tk.hf]
theorem okL_frm {l : List AV} (h0 : OkL [.int .i64,.int .i64,.int .i64,.int .i64] l) : ∃ f : Frm,l = frmA f := by
 obtain ⟨hl,h⟩ := h0
 match l,hl with
 | [a0,a1,a2,a3],_ =>
   have o0 := h 0 _ _ rfl rfl
   have o1 := h 1 _ _ rfl rfl
   have o2 := h 2 _ _ rfl rfl
   have o3 := h 3 _ _ rfl rfl
   cases o0 with | int _ n0 _ _ =>
   cases o1 with | int _ n1 _ _ =>
   cases o2 with | int _ n2 _ _ =>
   cases o3 with | int _ n3 _ _ =>
   exact ⟨⟨n0,n1,n2,n3⟩,rfl⟩
def i8 : List Sh := [.int .i64,.int .i64,.int .u64,.int .u64,.int .u64,.int .u64,.int .u64,.int .u64,.int .u64,.int .u64,.int .u64,.int .u64,.int .u64,.int .u64,.int .u64,.int .u64,.int .u64,.int .u64,.int .i64,.int .i64,.int .u64,.int .u64,.int .i64,.bool]
theorem okL_u : ∀ (k : Nat) (M : List Sh) (xs : List AV),OkL (List.replicate k (.int .u64) ++ M) xs -> ∃ (ws : List Int) (ys : List AV),xs = encs u64A ws ++ ys /\ ws.length = k /\ (∀ x ∈ ws,U64 x) /\ OkL M ys
 | 0,M,xs,h => ⟨[],xs,rfl,rfl,fun _ h => by simp at h,h⟩
 | k + 1,M,[],h => by have := h.1; simp only [List.length_nil,List.length_append,List.length_replicate] at this; omega
 | k + 1,M,v :: r,h => by
   obtain ⟨hl,hi⟩ := h
   have h0 := hi 0 (.int .u64) v (by simp [List.replicate_succ]) rfl
   obtain ⟨ws,ys,k1,k2,k3,k4⟩ := okL_u k M r ⟨by simpa [List.replicate_succ] using hl,fun i s x hs hx => hi (i + 1) s x (by rw [List.replicate_succ,List.cons_append,List.getElem?_cons_succ]; exact hs) (by rw [List.getElem?_cons_succ]; exact hx)⟩
   cases h0 with
   | int _ n b1 b2 =>
     have b1 : 0 <= n := b1
     have b2 : n <= 18446744073709551615 := b2
     refine ⟨n :: ws,ys,by rw [k1,encs_cons]; rfl,by simp [k2],fun x hx => ?_,k4⟩
     rcases List.mem_cons.1 hx with rfl | hx
     . exact ⟨b1,by omega⟩
     . exact k3 x hx
theorem okL_redo {l : List AV} (h0 : OkL i8 l) : ∃ r : Redo,l = redA r /\ RedT r := by
 have em : IntKind.u64.min = 0 := rfl
 have ex : IntKind.u64.max = 18446744073709551615 := by decide
 have em' : IntKind.i64.min = -9223372036854775808 := by decide
 have ex' : IntKind.i64.max = 9223372036854775807 := by decide
 obtain ⟨hl,h⟩ := h0
 match l,hl with
 | a0 :: a1 :: t,hl =>
   have o0 := h 0 (.int .i64) _ rfl rfl
   have o1 := h 1 (.int .i64) _ rfl rfl
   have ht : OkL (List.replicate 16 (.int .u64) ++ [.int .i64,.int .i64,.int .u64,.int .u64,.int .i64,.bool]) t :=
     ⟨by simpa [i8] using hl,fun i s x hs hx => h (i + 2) s x (by rw [show i8 = .int .i64 :: .int .i64 :: (List.replicate 16 (.int .u64) ++ [.int .i64,.int .i64,.int .u64,.int .u64,.int .i64,.bool]) from rfl,List.getElem?_cons_succ,List.getElem?_cons_succ]; exact hs) (by rw [List.getElem?_cons_succ,List.getElem?_cons_succ]; exact hx)⟩
   obtain ⟨ws,ys,rfl,k2,k3,hl2,k4⟩ := okL_u 16 _ t ht
   match ys,hl2 with
   | [b0,b1,b2,b3,b4,b5],_ =>
     have p0 := k4 0 _ _ rfl rfl
     have p1 := k4 1 _ _ rfl rfl
     have p2 := k4 2 _ _ rfl rfl
     have p3 := k4 3 _ _ rfl rfl
     have p4 := k4 4 _ _ rfl rfl
     have p5 := k4 5 _ _ rfl rfl
     cases o0 with | int _ n0 c0 d0 =>
     cases o1 with | int _ n1 c1 d1 =>
     cases p0 with | int _ n2 c2 d2 =>
     cases p1 with | int _ n3 c3 d3 =>
     cases p2 with | int _ n4 c4 d4 =>
     cases p3 with | int _ n5 c5 d5 =>
     cases p4 with | int _ n6 c6 d6 =>
     cases p5 with | bool b =>
     rw [em] at c4 c5
     rw [ex] at d4 d5
     rw [em'] at c0 c1 c2 c3 c6
     rw [ex'] at d0 d1 d2 d3 d6
     exact ⟨⟨n0,n1,ws,n2,n3,n4,n5,n6,b⟩,rfl,⟨c0,by show n0 < _; omega,c1,by show n1 < _; omega,k2,k3,c2,by show n2 < _; omega,c3,by show n3 < _; omega,⟨c4,by show n4 < _; omega⟩,⟨c5,by show n5 < _; omega⟩,c6,by show n6 < _; omega⟩⟩
theorem red24 {r : Redo} (h : r.ws.length = 16) : (redA r).length = 24 := by
 unfold redA
 simp only [List.length_cons,List.length_append,lenU,h,List.length_nil]
theorem redOne (r : Redo) : allOne (redA r) = true := by
 have e : redA r = [.int .i64 r.k,.int .i64 r.i] ++ (encs u64A r.ws ++ [.int .i64 r.fr,.int .i64 r.to,.int .u64 r.fk,.int .u64 r.tk,.int .i64 r.rc,.bool r.dir]) := rfl
 rw [e,allOne_append,allOne_append,one_u64A]
 rfl
theorem repZ (M : Nat) : repL M [AV.int .u64 0] = encs u64A (List.replicate M 0) := by
 induction M with
 | zero => rfl
 | succ n ih => rw [repL,ih,List.replicate_succ,encs_cons]; rfl
theorem wordsJ_ne {r : Redo} : wordsR r ≠ [] := by unfold wordsR sealM plainR; simp
theorem lend_lend (x : AV) : lend (lend x) = lend x := by
 have h : ∀ y,unown (unown y) = unown y := fun y => by
   cases y with
   | sl sz n cs tk => cases tk <;> rfl
   | _ => rfl
 cases x with
 | sl sz n cs tk => cases tk <;> rfl
 | agg cs =>
   show AV.agg _ = AV.agg _
   rw [List.map_map]
   congr 1
   exact List.map_congr_left fun y _ => h y
 | _ => rfl
theorem pc_lend {tab : FuncId -> Option AFun} {f : FuncId} {fi : AFun} {args : List AV} {r : PR} (ht : tab f = some fi) (hm : fi.mode = 3) (hcon : fi.con = none) (h : (cbL tab).pc f (args.map lend) = some r) : (cbL tab).pc f args = some r := by
 obtain ⟨k,hk⟩ := cbL_pc.1 h
 cases k with
 | zero => cases hk
 | succ k =>
   refine cbL_pc.2 ⟨k + 1, ?_⟩
   have hk : pcA tab (cbs tab k) f (args.map lend) = some r := hk
   show pcA tab (cbs tab k) f args = some r
   have e : (args.map lend).map lend = args.map lend := by
     rw [List.map_map]
     exact List.map_congr_left fun y _ => lend_lend y
   unfold pcA pcOn at hk ⊢
   rw [ht] at hk ⊢
   simp only [hcon,hm,e] at hk ⊢
   exact hk
theorem jof_own {f : Frm} {y : Ly} (hy : LyT y) (w : List Int) (g : Nat) (hw : ∀ x ∈ w,U64 x) (hl : w.length = 64) (H : Heap) :
   pcx (cbL tab) 10 [lyV f y,.sl 1 64 (encs u64A w) (.own g)] H = some (.plain (outV (outJ f y w))) := by
 have h := jof_pc (f := f) hy w [] 1 .ro (.inl rfl) (fun _ => rfl) rfl rfl hw (by omega)
 rw [hl,List.append_nil] at h
 exact pcx_L rfl (by rw [List.map_cons,List.map_cons,List.map_nil,lendK_sl]; rfl) (pc_lend (args := [lyV f y,.sl 1 64 (encs u64A w) (.own g)]) rfl rfl rfl h) (bare_out _)
theorem wo_apF {W : List Int} (hn : W.length ≠ 0) (hl : W.length <= 19) (tk : Tk) (g : Nat) :
   appF 1 8 (.sl 1 0 [] .e) (.sl 1 W.length (encs u64A W) tk) g = some (.sl 1 W.length (encs u64A W) (.own g),some (.tok 1)) := by
 have t2 : List.take W.length (encs u64A W) = encs u64A W := List.take_of_length_le (by rw [lenU]; exact Nat.le_refl _)
 have l1 := lenU W
 simp [appF,t2,one_u64A,l1,hn,Tk.empty]
 omega
theorem wo_apG {W : List Int} (hn : W.length ≠ 0) (hl : W.length <= 19) (a b c : AObj) :
   appG 3 1 8 [.int .u64 0] (.sl 1 W.length (encs u64A W) (.own 3)) (.int .i64 (64 - (W.length : Int))) [a,b,c,.tok 1] 4 = some (.sl 1 64 (encs u64A (W ++ List.replicate (64 - W.length) 0)) (.own 4),some (.tok 1)) := by
 have hm : madeN 1 8 [AV.int .u64 0] (.int .i64 (64 - (W.length : Int))) (.int .i64 (64 - (W.length : Int))) = some (64 - W.length) := by
   have e : (64 - (W.length : Int)).toNat = 64 - W.length := by omega
   have h0 : 0 <= 64 - (W.length : Int) := by omega
   have h1 : (64 - W.length) * 8 <= 70368744177664 := by omega
   have h2 : 64 - W.length <= 70368744177664 := by omega
   simp [madeN,e,h1,h2,allOne,AV.one]
   omega
 unfold appG
 rw [hm]
 have e64 : W.length + (64 - W.length) = 64 := by omega
 have hm0 : 64 - W.length ≠ 0 := by omega
 simp only [List.getElem?_cons_succ,List.getElem?_cons_zero,e64,repZ,encs_append]
 rw [if_pos (by refine ⟨by decide,trivial,trivial,by decide,hm0,by decide,by decide⟩)]
theorem journalWords_pc {l : List AV} {b : AV} {xs : List AV} (h0 : OkL [.int .i64,.int .i64,.int .i64,.int .i64] l) (h1 : OkS .bool b) (h2 : OkL i8 xs) :
   (cbL tab).pc 5 [.agg l,b,.agg xs] = some (.plain (.bool true)) := by
 obtain ⟨f,rfl⟩ := okL_frm h0
 cases h1 with | bool b =>
 obtain ⟨r,rfl,ht⟩ := okL_redo h2
 refine pc_wp (fi := c5) rfl ?_ (by simp [c5]) (by decide) ?_
 . have lf : (lend (.agg (frmA f))).hf = true := rfl
   simp only [pcOn,List.map_cons,List.map_nil,hfL,hf_lend_sl,hf_lend_int,hf_lend_bool,hf_lend_str,hfL_append,Bool.and_self,Bool.and_true,Bool.true_and,c5,lend_redV,hf_redV,lf]
 have lf : lend (.agg (frmA f)) = .agg (frmA f) := rfl
 have lb : ∀ b,lend (.bool b) = .bool b := fun _ => rfl
 rw [List.map_cons,List.map_cons,List.map_cons,List.map_nil,lf,lb,lend_redV]
 unfold c5
 have hly := fun H => llay_px f b H
 have hY := lawY_t f b
 generalize lawF f = F at *
 generalize lawY f b = Y at *
 have wp := fun H => jwords_px (f := F) hY ht H
 have rp := fun H => rwords21_px (f := F) (y := Y) ht H
 have cp := fun H => jcheck_px (f := F) hY ht H
 have dp := fun H => rcheck21_px (f := F) (y := Y) ht H
 have wk1 := fun H => jworks_px H
 have np := fun n H => jnum_px n H
 have lR := red24 ht.wl
 have oR := redOne r
 unfold wordsJV wordsJ at wp rp
 by_cases ck : checkJ F Y r = 0
 case neg =>
   rw [if_neg ck] at wp rp
   have e2 : slvR 1 u64A ([] : List Int) = .sl 0 0 [] .z := rfl
   rw [e2] at wp rp
   have sm := fun H => same_px [] [] [] [] 0 0 .z .z H (by decide) (by decide) (fun h => absurd rfl h) (fun h => absurd rfl h) rfl rfl
   rw [decide_eq_true rfl] at sm
   have e3 : encs u64A [] ++ [] = ([] : List AV) := rfl
   rw [e3] at sm
   simp only [List.length_nil] at sm
   generalize checkJ F Y r = e at *
   generalize redA r = R at *
   have tR : List.take 24 R = R := List.take_of_length_le (by omega)
   clear hY
   unfold lyV lyA frmA at *
   simp only [List.cons_append,List.nil_append] at hly wp rp cp dp ⊢
   simp (disch := omega) only [wk,tupled,↓reduceIte,reduceEqDiff,reduceEq,reduceAdd,reduceCtorEq,hly,wp,rp,cp,dp,sm,np,wk1,ck,lR,oR,tR,Int.reduceToNat,Int.reduceAdd,Int.reduceSub,Int.reduceMul,Int.reduceNeg,Nat.reduceSub,Nat.reduceDiv,purify,unownT,lend,unown,AV.hf,hfL,Tk.hf]
 obtain ⟨ho,hm,_⟩ := rightJ_1 ck
 rw [if_pos ck,ck] at wp rp
 rw [ck] at cp dp
 have ofw := fun rest hl => of_words (f := F) hm ht rest hl
 have hu : ∀ x ∈ wordsR r,U64 x := by
   have pu := plainR_u ht ho.1 hm
   intro x hx
   unfold wordsR sealM at hx
   rcases List.mem_append.1 hx with hx | hx
   . exact pu x hx
   . simp only [List.mem_cons,List.not_mem_nil,or_false] at hx
     subst hx
     exact moreM_ok ⟨by decide,by decide⟩ _
 have hl1 : (wordsR r).length ≠ 0 := fun h => wordsJ_ne (List.length_eq_zero_iff.1 h)
 have hl2 : (wordsR r).length <= 19 := by rw [wordsR_len ht]; split <;> omega
 have sv : slvR 1 u64A (wordsR r) = .sl 1 (wordsR r).length (encs u64A (wordsR r)) .ro := by
   unfold slvR
   have : (wordsR r).isEmpty = false := by
     cases hh : wordsR r with
     | nil => exact absurd hh wordsJ_ne
     | cons _ _ => rfl
   rw [this]; rfl
 rw [sv] at wp rp
 have hh0 : (wordsR r).getD 0 0 ≠ 0 := by rw [wordsR_0]; exact headR_ne r
 have rq := fun xo yo => red_eqv (xo := xo) (yo := yo) ht.wl ht.wl
 rw [decide_eq_true rfl] at rq
 unfold redK at rq
 generalize wordsR r = W at *
 have sm := fun H => same_px W W [] [] 1 1 .ro .ro H (by omega) (by omega) (fun _ => rfl) (fun _ => rfl) rfl rfl
 rw [decide_eq_true rfl,List.append_nil] at sm
 have hVu : ∀ x ∈ W ++ List.replicate (64 - W.length) 0,U64 x := by
   intro x hx
   rcases List.mem_append.1 hx with hx | hx
   . exact hu x hx
   . have := (List.mem_replicate.1 hx).2; subst this; exact ⟨by decide,by decide⟩
 have lV : (W ++ List.replicate (64 - W.length) 0).length = 64 := by rw [List.length_append,List.length_replicate]; omega
 have hof : outJ F Y (W ++ List.replicate (64 - W.length) 0) = (r,true,0) := by
   unfold outJ
   rw [if_pos ho]
   exact ofw _ lV
 have jo := fun g H => jof_own (f := F) hY _ g hVu lV H
 rw [hof] at jo
 unfold outV at jo
 have aF := fun g => wo_apF hl1 hl2 .ro g
 have aG := fun a b c => wo_apG hl1 hl2 a b c
 clear hof ofw ck sv hu
 generalize W ++ List.replicate (64 - W.length) 0 = V at *
 dsimp only at jo
 generalize redA r = R at *
 have tR : List.take 24 R = R := List.take_of_length_le (by omega)
 unfold lyV lyA frmA at *
 simp only [List.cons_append,List.nil_append] at hly wp rp cp dp jo ⊢
 simp (disch := omega) only [wk,tupled,↓reduceIte,reduceEqDiff,reduceEq,reduceAdd,reduceCtorEq,hly,wp,rp,cp,dp,sm,np,wk1,lR,oR,tR,rq,jo,aF,aG,wantedE_none,List.append_nil,List.set_cons_zero,List.set_cons_succ,Int.reduceToNat,Int.reduceAdd,Int.reduceSub,Int.reduceMul,Int.reduceNeg,Nat.reduceSub,Nat.reduceDiv,purify,unownT,lend,unown,AV.hf,hfL,Tk.hf]
end Go.Proofs.YtobhofmicgmjfaaGreat
namespace Go.Proofs.YtobhofmicgmjfaaGreat
open Go Go.Proofs Go.Shelf Go.RowKit
def gren : Go.Shelf.Ren := ⟨fun | 4 => 60 | n => n,fun | 22 => 24 | 25 => 26 | n => n,fun | n => n⟩
theorem glays : Go.Proofs.Lays8.n4 Tryz.prog gren := {
 mixed := by kernel_rfl
 f4 := ⟨Tryz.f60.name,by kernel_rfl,Tryz.func60.trans (congrArg some (by kernel_rfl))⟩
 t0 := Tryz.underlying0
 a0 := Tryz.isAgg0
 z0 := Tryz.sizeOf0
 v0 := Tryz.zeroValue0
 t3 := Tryz.underlying3
 a3 := Tryz.isAgg3
 z3 := Tryz.sizeOf3
 v3 := Tryz.zeroValue3
 t4 := Tryz.underlying4
 a4 := Tryz.isAgg4
 z4 := Tryz.sizeOf4
 v4 := Tryz.zeroValue4
 t9 := Tryz.underlying9
 a9 := Tryz.isAgg9
 z9 := Tryz.sizeOf9
 v9 := Tryz.zeroValue9
 t20 := Tryz.underlying20
 a20 := Tryz.isAgg20
 z20 := Tryz.sizeOf20
 v20 := Tryz.zeroValue20
 t22 := Tryz.underlying24
 a22 := Tryz.isAgg24
 z22 := Tryz.sizeOf24
 v22 := Tryz.zeroValue24
}
theorem info9 : ∃ i,Tryz.prog.info? 26 = some i /\ i.zero = some (.int .u64 0) /\ i.size = 1 /\ i.bytes = 8 := by
 have h : (Tryz.prog.info? 26).map (fun i => (i.zero,i.size,i.bytes)) = some (some (.int .u64 0),1,8) := by kernel_rfl
 obtain ⟨i,hi,h2⟩ := Option.map_eq_some_iff.1 h
 simp only [Prod.mk.injEq] at h2
 exact ⟨i,hi,h2.1,h2.2.1,h2.2.2⟩
def GrownP (w : World) (n : Nat) (e : Ending) (w' : World) : Prop := ∃ v,e = .returned v /\ w'.ownsRow w.heap.size 26 1 v 0 [] /\ Below w.heap.size w w' /\ (n = 0 -> v = .slice none 0 0)
theorem grow_nil (n : Nat) (hn : n <= 4294967296) (w : World) :
   Calls Tryz.prog 60 #[.slice none 0 0,.int .i64 n] w (GrownP w n) := by
 by_cases h0 : n = 0
 . subst h0
   refine (Any8.slices_Grow_room glays none 0 0 0 w (Nat.le_refl _) (by omega) (by omega) (by omega)).mono ?_
   rintro e w' ⟨rfl,rfl⟩
   exact ⟨_,rfl,World.ownsRow_nil _ _ _ _,Below.refl _ _,fun _ => rfl⟩
 . obtain ⟨i,hi,hz,hs,hb⟩ := info9
   have hg := grownCap_ge w (0 + n) 0 26
   have hgl := grownCap_le_maxLen w (0 + n) 0 26 (by simp only [maxLen]; omega)
   refine (Any8.slices_Grow_grow glays i (.int .u64 0) hi hz (by omega) none 0 0 n [] w (Nat.le_refl _) (by omega) (by rw [hb]; omega) (by omega) (by simp) (fun _ => rfl) (fun a h => by cases h)).mono ?_
   rintro e w' ⟨rfl,rfl⟩
   refine ⟨_,rfl,World.ownsRow_made w.drew _ _ (Nat.le_refl _) hgl ?_,((Below.refl _ w).drew).alloc (Nat.le_refl _) _,fun h => absurd h h0⟩
   have z1 : (.int .u64 0 : Value).cells.size = 1 := rfl
   have g1 : grownCap w (0 + n) 0 (gren.t 25) = grownCap w (0 + n) 0 26 := rfl
   simp only [Array.size_append,size_zeroCells,z1,Nat.mul_one,List.size_toArray,List.length_nil,g1]
   omega
structure CRow where
 a : Option Addr
 n : Nat
 c : Nat
 xs : List Value
def CRow.ok (w : World) (r : CRow) : Prop := r.xs.length = r.n * 1 /\ (r.a = none -> r.n = 0 /\ r.c = 0) /\ (∀ a,r.a = some a -> ∀ j u,r.xs[j]? = some u -> w.cell? (a.add j) = some u) /\ ∀ u ∈ r.xs,u.oneCell' = true
def sumN (l : List CRow) : Nat := (l.map (·.n)).sum
theorem sumN_take (l : List CRow) (k : Nat) : sumN (l.take k) <= sumN l := by
 induction l generalizing k with
 | nil => simp
 | cons r l ih =>
   cases k with
   | zero => simp [sumN]
   | succ k =>
     have := ih k
     simp only [sumN,List.take_succ_cons,List.map_cons,List.sum_cons] at this ⊢; omega
theorem sumN_succ (l : List CRow) (k : Nat) (r : CRow) (h : l[k]? = some r) : sumN (l.take (k + 1)) = sumN (l.take k) + r.n := by
 rw [List.take_add_one,h]
 simp [sumN]
theorem append_row (w wr : World) (v : Value) (n : Nat) (xs : List Value) (r : CRow) (ho : wr.ownsRow w.heap.size 26 1 v n xs) (hb : Below w.heap.size w wr) (hr : r.ok wr) (hs : n + r.n <= 4294967296) :
   ∃ v' w',(∀ ty,(Builtin.append_ #[24,24] ty #[v,.slice r.a r.n r.c]).run Tryz.prog wr = .ok v' w') /\ w'.ownsRow w.heap.size 26 1 v' (n + r.n) (xs ++ r.xs) /\ Below w.heap.size w w' /\ (v = .slice none 0 0 -> r.n = 0 -> v' = .slice none 0 0) := by
 obtain ⟨i,hi,hz,hsz,hby⟩ := info9
 obtain ⟨h1,h2,h3,h4⟩ := hr
 obtain ⟨a,m,c,ys⟩ := r
 dsimp only at *
 have hsize := hb.size
 cases a with
 | none =>
   obtain ⟨rfl,rfl⟩ := h2 rfl
   have : ys = [] := List.eq_nil_of_length_eq_zero (by omega)
   subst this
   refine ⟨v,wr,fun ty => run_append_owned_none wr w.heap.size 24 ty 26 i 1 Tryz.underlying24 hi v n xs ho,by simpa using ho,hb,fun h _ => h⟩
 | some a =>
   have key : ∀ ty,∃ v' w',(Builtin.append_ #[24,24] ty #[v,.slice (some a) m c]).run Tryz.prog wr = .ok v' w' /\ w'.ownsRow w.heap.size 26 1 v' (n + m) (xs ++ ys) /\ wr.grownBy w' v.ownBlock /\ (v' = .slice none 0 0 ↔ v = .slice none 0 0 /\ m = 0) := fun ty =>
     run_append_own wr w.heap.size 24 ty 26 i (.int .u64 0) 1 8 Tryz.underlying24 hi hz hsz hby rfl (by omega) v n xs ho a m c ys (by omega) (h3 a rfl) h4 (by simp only [maxLen]; omega) (by omega) hsize
   obtain ⟨v',w',k1,k2,k3,k4⟩ := key 0
   refine ⟨v',w',fun ty => ?_,k2,hb.grown k3 hsize (fun k hk => (ho.lt k hk).1),fun h h' => k4.2 ⟨h,h'⟩⟩
   rw [<- k1]
   rfl
def ConcP (rows : List CRow) (w : World) (e : Ending) (w' : World) : Prop := ∃ v,e = .returned v /\ w'.ownsRow w.heap.size 26 1 v (sumN rows) (rows.flatMap (·.xs)) /\ Below w.heap.size w w' /\ (sumN rows = 0 -> v = .slice none 0 0)
set_option maxHeartbeats 4000000 in
set_option maxRecDepth 1000000 in
theorem concat_walk (base : Addr) (N cap : Nat) (rows : List CRow) (w : World) (hl : rows.length = N) (hN : N <= 4294967296)
   (hc : ∀ i r,rows[i]? = some r -> w.cell? (base.add i) = some (.slice r.a r.n r.c)) (hr : ∀ r ∈ rows,r.ok w) (ht : sumN rows <= 4294967296) :
   Calls Tryz.prog 38 #[.slice (some base) N cap] w (ConcP rows w) := by
 go_enter Tryz.func38,Tryz.ntmps38
 go_wp2
 go_loopw [3,11] (fun s i wr => ∃ (k : Nat),k <= N /\ i = .int .i64 k /\ s = .int .i64 (sumN (rows.take k) : Nat) /\ wr = w) (fun s i _ => N - (RowKit.intOf i).toNat)
 case atStart => exact ⟨0,by omega,rfl,rfl,rfl⟩
 case round =>
   obtain ⟨k,hk,rfl,rfl,hww⟩ := hrel
   have hww := hww.symm
   subst hww
   by_cases hp : k < N
   . obtain ⟨r,hrk⟩ : ∃ r,rows[k]? = some r := ⟨_,List.getElem?_eq_getElem (by omega)⟩
     have hcell := hc k r hrk
     have hss := sumN_succ rows k r hrk
     have hle := sumN_take rows (k + 1)
     rw [hss] at hle
     have hw : wrap64 ((sumN (rows.take k) : Int) + (r.n : Int)) = (sumN (rows.take k) : Int) + (r.n : Int) := by unfold wrap64; omega
     have hneg : ¬ ((sumN (rows.take k) : Int) + (r.n : Int) < 0) := by omega
     clear hrk hc
     go_wp2
     refine ⟨⟨k + 1,by omega,rfl, ?_,trivial⟩, ?_⟩
     . rw [hss]; rfl
     . show N - ((k : Int) + 1).toNat < N - (k : Int).toNat
       omega
   . obtain rfl : k = N := by omega
     have hall : rows.take k = rows := List.take_of_length_le (by omega)
     rw [hall]
     go_wp2_with (go_at_call 60; refine (grow_nil (sumN rows) ht w).mono ?_)
     rintro e W1 ⟨v,rfl,ho,hb,hn0⟩
     go_wp2
     go_loopw [6,27] (fun s i wq => ∃ (j : Nat),j <= k /\ i = .int .i64 j /\ wq.ownsRow w.heap.size 26 1 s (sumN (rows.take j)) ((rows.take j).flatMap (·.xs)) /\ Below w.heap.size w wq /\ (sumN rows = 0 -> s = .slice none 0 0)) (fun s i _ => k - (RowKit.intOf i).toNat)
     case atStart => exact ⟨0,by omega,rfl,ho,hb,hn0⟩
     case round =>
       obtain ⟨j,hj,rfl,ho1,hb1,hn1⟩ := hrel
       by_cases hp : j < k
       . obtain ⟨r,hrk⟩ : ∃ r,rows[j]? = some r := ⟨_,List.getElem?_eq_getElem (by omega)⟩
         have hcell := hc j r hrk
         have hblk : (base.add j).block < w.heap.size := World.block_lt_of_cell? w (base.add j) hcell
         rw [<- hb1.cell (p := base.add j) hblk] at hcell
         have hss := sumN_succ rows j r hrk
         have hle := sumN_take rows (j + 1)
         rw [hss] at hle
         have hok : r.ok wr := by
           obtain ⟨q1,q2,q3,q4⟩ := hr r (List.mem_of_getElem? hrk)
           exact ⟨q1,q2,fun a ha i u hu => by
             have := q3 a ha i u hu
             rw [<- this]
             exact hb1.cell (World.block_lt_of_cell? w _ this),q4⟩
         have hxs : (rows.take (j + 1)).flatMap (·.xs) = (rows.take j).flatMap (·.xs) ++ r.xs := by
           rw [List.take_add_one,hrk]
           simp
         obtain ⟨v',w',k1,k2,k3,k4⟩ := append_row w wr _ _ _ r ho1 hb1 hok (by omega)
         rw [<- hxs,<- hss] at k2
         clear hrk hok hc hr
         go_wp2_with (at_builtin; refine Lib.wpList_append_run _ rfl _ _ _ _ rfl _ _ rfl rfl _ _ (k1 _) ?_)
         refine ⟨⟨j + 1,by omega,rfl,k2,k3,fun h0 => k4 (hn1 h0) (by have := sumN_take rows (j + 1); omega)⟩, ?_⟩
         show k - ((j : Int) + 1).toNat < k - (j : Int).toNat
         omega
       . obtain rfl : j = k := by omega
         rw [hall] at ho1
         go_wp2
         go_ret
         exact ⟨_,rfl,ho1,hb1,hn1⟩
end Go.Proofs.YtobhofmicgmjfaaGreat
namespace Go.Proofs.YtobhofmicgmjfaaGreat
open Go Go.Am Go.RowKit
variable [Thaw]
theorem add_none' (b o i : Nat) : (⟨b,o,none⟩ : Addr).add i = ⟨b,o + i,none⟩ := by unfold Addr.add; split <;> simp_all
theorem row_inv0 {V : View} {W : World} (hi : ∀ p v,V.imm p = some v -> W.cell? p = some v /\ v.oneCell' = true) {s n k : Nat} {cs : List AV} {tk : Tk} {v : Value} (h : Rep V (.sl s n cs tk) v) (hs : n = 0 ∨ s = k) (hn : n * k <= cs.length) :
   ∃ (a : Option Addr) (c : Nat) (xs : List Value),v = .slice a n c /\ xs.length = n * k /\ (a = none -> n = 0 /\ c = 0) /\ (∀ a',a = some a' -> ∀ j u,xs[j]? = some u -> W.cell? (a'.add j) = some u) /\ (∀ u ∈ xs,u.oneCell' = true) /\ RepL V (cs.take (n * k)) xs := by
 have main : ∀ (b o cap : Nat) (f : Nat -> Value),v = .slice (some ⟨b,o,none⟩) n cap -> (∀ i,i < cs.length -> V.imm ⟨b,o + i,none⟩ = some (f i)) -> (∀ (i : Nat) (x : AV),cs[i]? = some x -> Rep V x (f i)) -> ∃ (a : Option Addr) (c : Nat) (xs : List Value),v = .slice a n c /\ xs.length = n * k /\ (a = none -> n = 0 /\ c = 0) /\ (∀ a',a = some a' -> ∀ j u,xs[j]? = some u -> W.cell? (a'.add j) = some u) /\ (∀ u ∈ xs,u.oneCell' = true) /\ RepL V (cs.take (n * k)) xs := by
   intro b o cap f e h1 h2
   refine ⟨some ⟨b,o,none⟩,cap,(List.range (n * k)).map f,e,by simp,fun h => (by cases h), ?_, ?_, ?_, ?_⟩
   . intro a ha j u hu
     cases ha
     simp only [List.getElem?_map,Option.map_eq_some_iff] at hu
     obtain ⟨q,hk,rfl⟩ := hu
     obtain ⟨hlt,rfl⟩ := List.getElem?_eq_some_iff.1 hk
     simp only [List.length_range] at hlt
     simp only [List.getElem_range]
     rw [add_none']
     exact (hi _ _ (h1 j (by omega))).1
   . intro u hu
     obtain ⟨j,hj,rfl⟩ := List.mem_map.1 hu
     have := List.mem_range.1 hj
     exact (hi _ _ (h1 j (by omega))).2
   . simp; omega
   . intro i x v hx hv
     simp only [List.getElem?_map,Option.map_eq_some_iff] at hv
     obtain ⟨q,hk,rfl⟩ := hv
     obtain ⟨hlt,rfl⟩ := List.getElem?_eq_some_iff.1 hk
     simp only [List.getElem_range]
     rw [List.getElem?_take] at hx
     split at hx
     . exact h2 i x hx
     . cases hx
 cases h with
 | slnil => exact ⟨none,0,[],rfl,by simp,fun _ => ⟨rfl,rfl⟩,fun a h => (by cases h),fun u h => (by cases h),by simpa using RepL.nil _⟩
 | slx _ a => exact ⟨some a,0,[],rfl,by simp,fun h => (by cases h),fun a _ j u h => (by simp at h),fun u h => (by cases h),by simpa using RepL.nil _⟩
 | sl f a1 a2 a3 a4 a5 => exact main _ _ _ f rfl a4 a5
 | slo f a1 a2 a3 a4 a5 => exact main _ 0 _ f rfl (fun i h => by rw [Nat.zero_add]; exact a4 i h) a5
theorem row_inv {V : View} {W : World} (hi : ∀ p v,V.imm p = some v -> W.cell? p = some v /\ v.oneCell' = true) {s n : Nat} {cs : List AV} {tk : Tk} {v : Value} (h : Rep V (.sl s n cs tk) v) (hs : n = 0 ∨ s = 1) (hn : n * 1 <= cs.length) :
   ∃ r : CRow,v = .slice r.a r.n r.c /\ r.ok W /\ RepL V (cs.take (n * 1)) r.xs /\ r.n = n := by
 obtain ⟨a,c,xs,h1,h2,h3,h4,h5,h6⟩ := row_inv0 hi h hs hn
 exact ⟨⟨a,n,c,xs⟩,h1,⟨h2,h3,h4,h5⟩,h6,rfl⟩
theorem rows_inv {V : View} {W : World} (hi : ∀ p v,V.imm p = some v -> W.cell? p = some v /\ v.oneCell' = true) : ∀ {cells : List AV} {vals : List Value} {L : List (List AV)},RepL V cells vals -> rowsA cells = some L →
   ∃ rows : List CRow,rows.length = cells.length /\ (∀ (i : Nat) (r : CRow),rows[i]? = some r -> vals[i]? = some (.slice r.a r.n r.c)) /\ (∀ r ∈ rows,r.ok W) /\ RepL V L.flatten (rows.flatMap (·.xs)) /\ sumN rows * 1 = L.flatten.length
 | [],vals,L,h,hL => by
   cases hL
   exact ⟨[],rfl,fun i r h => (by simp at h),fun r h => (by cases h),RepL.nil _,rfl⟩
 | x :: cells,[],L,h,hL => by have := h.1; simp at this
 | x :: cells,v :: vals,L,h,hL => by
   unfold rowsA at hL
   split at hL
   . cases ‹_ :: _ = []›
   . rename_i s n cs tk r heq
     cases heq
     split at hL
     . rename_i hc
       obtain ⟨L',h1,rfl⟩ := Option.map_eq_some_iff.1 hL
       obtain ⟨r0,k1,k2,k3,k4⟩ := row_inv hi h.head hc.1 hc.2
       obtain ⟨rows,j1,j2,j3,j4,j5⟩ := rows_inv hi h.tail h1
       have hxl := k3.1
       rw [List.length_take] at hxl
       refine ⟨r0 :: rows,by simp [j1],fun i r hr => ?_,fun r hr => ?_, ?_, ?_⟩
       . cases i with
         | zero => simp at hr; subst hr; simp [k1]
         | succ i => simpa using j2 i r (by simpa using hr)
       . rcases List.mem_cons.1 hr with rfl | hr
         . exact k2
         . exact j3 r hr
       . exact k3.append j4
       . have := k2.1
         simp only [sumN,List.map_cons,List.sum_cons,List.flatten_cons,List.length_append,List.length_take] at j5 ⊢
         omega
     . cases hL
   . cases hL
theorem con_of (f : FuncId) (hf : ∀ (W : World) (us : Array Value),(callFunc f us).run Tryz.prog W = .ok (.enter f us) W)
   (hw : ∀ (base : Addr) (N cap : Nat) (rows : List CRow) (w : World),rows.length = N -> N <= 4294967296 -> (∀ (i : Nat) (r : CRow),rows[i]? = some r -> w.cell? (base.add i) = some (.slice r.a r.n r.c)) -> (∀ r ∈ rows,r.ok w) -> sumN rows <= 4294967296 -> Calls Tryz.prog f #[.slice (some base) N cap] w (ConcP rows w)) :
   ConOk Tryz.prog f concC := by
 intro args r hg V W us hi hr
 refine ⟨hf W us, ?_⟩
 show CallsIn Fence.wide 0 Tryz.prog f us W (PcPost V W r)
 refine callsIn_wide.2 ?_
 unfold concC at hg
 split at hg
 case h_2 => cases hg
 rename_i n cs tk
 split at hg
 case h_2 => cases hg
 rename_i L hL
 split at hg
 case isFalse => cases hg
 rename_i hcnd
 obtain ⟨hn0,hnc,hn,htl⟩ := hcnd
 cases hg
 have hus : ∃ v,us = #[v] /\ Rep V (.sl 1 n cs tk) v := by
   have h1 := hr.1
   match hu : us.toList,hr with
   | [v],hr => exact ⟨v,by rw [<- Array.toList_inj,hu],hr.head⟩
   | [],hr => have := hr.1; simp at this
   | _ :: _ :: _,hr => have := hr.1; simp at this
 obtain ⟨v,rfl,hv⟩ := hus
 obtain ⟨a,c,xs,e0,q1,q2,q3,q4,rep0⟩ := row_inv0 (k := 1) hi hv (.inr rfl) (by omega)
 rw [Nat.mul_one] at q1 rep0
 obtain ⟨rows,j1,j2,j3,j4,j5⟩ := rows_inv hi rep0 hL
 have hxl := rep0.1
 rw [List.length_take] at hxl
 cases a with
 | none => have := (q2 rfl).1; omega
 | some a =>
   subst e0
   refine (hw a n c rows W (by rw [j1,List.length_take]; omega) hn (fun i r hr => q3 a rfl i _ (j2 i r hr)) j3 (by omega)).mono ?_
   rintro e W' ⟨v,rfl,ho,hb,hnil⟩
   have hsn : sumN rows = L.flatten.length / 1 := by omega
   rw [hsn] at ho hnil
   by_cases hz : L.flatten = []
   . rw [if_pos hz]
     obtain rfl := hnil (by rw [hz]; rfl)
     refine ⟨V.imm,hb,fun p v hp => ?_,fun p v hp => hp,fun p v hp => .inl hp,.slnil 0⟩
     obtain ⟨h1,h2⟩ := hi p v hp
     exact ⟨by rw [hb.cell (World.block_lt_of_cell? W p h1)]; exact h1,h2⟩
   . rw [if_neg hz]
     have hnz : L.flatten.length / 1 ≠ 0 := fun e => hz (List.eq_nil_of_length_eq_zero (by omega))
     have hcells := fun {g} => ho.cells (g := g)
     rcases ho.2 with ⟨rfl,h0⟩ | ⟨g,cap,cur,rfl,hbg,hg,hncap,hcm,hcs,htk⟩
     . exact absurd h0 hnz
     have hcell := ho.cells (g := g) rfl
     have hy1 : ∀ u ∈ rows.flatMap (·.xs),u.oneCell' = true := by
       intro u hu
       obtain ⟨r,hr,hu⟩ := List.mem_flatMap.1 hu
       exact (j3 r hr).2.2.2 u hu
     generalize rows.flatMap (·.xs) = ys at *
     have hlt : ∀ p v,V.imm p = some v -> p.block < W.heap.size := fun p v hp => World.block_lt_of_cell? W p (hi p v hp).1
     refine ⟨fun p => if p.block = g /\ p.spot = none then ys[p.off]? else V.imm p,hb,fun p v hp => ?_,fun p v hp => ?_,fun p v hp => ?_, ?_⟩
     . simp only at hp
       split at hp
       . rename_i hpg
         obtain ⟨b,o,s⟩ := p
         simp only at hpg hp
         obtain ⟨rfl,rfl⟩ := hpg
         have := hcell _ _ hp
         rw [add_none',Nat.zero_add] at this
         exact ⟨this,hy1 _ (List.mem_of_getElem? hp)⟩
       . obtain ⟨h1,h2⟩ := hi p v hp
         exact ⟨by rw [hb.cell (hlt p v hp)]; exact h1,h2⟩
     . simp only
       rw [if_neg (by rintro ⟨h,_⟩; have := hlt p v hp; omega)]
       exact hp
     . simp only at hp
       split at hp
       . rename_i hpg; exact .inr (by omega)
       . exact .inl hp
     . have hyl := j4.1
       have hIV : ∀ (Lc : Nat -> Option Am.Loc),(∀ i l,V.loc i = some l -> Lc i = some l) -> ∀ {x : AV} {u : Value},Rep V x u -> Rep ⟨fun p => if p.block = g /\ p.spot = none then ys[p.off]? else V.imm p,Lc⟩ x u := fun Lc hLc x u hr => by
         refine Rep.mono (V := V) (V' := ⟨fun p => if p.block = g /\ p.spot = none then ys[p.off]? else V.imm p,Lc⟩) ⟨fun p v hp => ?_,hLc⟩ hr
         show (if p.block = g /\ p.spot = none then ys[p.off]? else V.imm p) = some v
         rw [if_neg (by rintro ⟨h,_⟩; have := hlt p v hp; omega)]
         exact hp
       refine ⟨26,ys,g,cap,rfl,ho,fun off hoff => ?_, ?_,fun Lc g' hLc hg' => ?_⟩
       . simp only [and_self,if_true]
         exact List.getElem?_eq_none (by omega)
       . refine .sl (fun i => ys.getD i undef) (by omega) (by omega) hncap (fun i hi2 => ?_) (fun i x hx => ?_) (.inl rfl)
         . simp only [if_true,and_self,Nat.zero_add]
           rw [List.getD_eq_getElem?_getD,List.getElem?_eq_getElem (by omega)]; rfl
         . obtain ⟨u,hu,hr⟩ := j4.get hx
           rw [List.getD_eq_getElem?_getD,hu]
           exact hIV _ (fun _ _ h => h) hr
       . refine .slo (fun i => ys.getD i undef) (by omega) hncap hg' (fun i hi2 => ?_) (fun i x hx => ?_)
         . simp only [if_true,and_self]
           rw [List.getD_eq_getElem?_getD,List.getElem?_eq_getElem (by omega)]; rfl
         . obtain ⟨u,hu,hr⟩ := j4.get hx
           rw [List.getD_eq_getElem?_getD,hu]
           exact hIV _ hLc hr
theorem concOk : ConOk Tryz.prog 38 concC := con_of 38 (fun _ us => callFunc_run Tryz.func38 rfl rfl us) concat_walk
end Go.Proofs.YtobhofmicgmjfaaGreat
