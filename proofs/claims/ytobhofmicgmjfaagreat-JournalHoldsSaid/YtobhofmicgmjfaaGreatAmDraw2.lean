/- REGIONS THAT DRAW THEIR ORDER, the walk over all orders. No condition. -/
import Derived.Test.YtobhofmicgmjfaaGreatAmDraw
open Int (reduceEq)
open Nat (reduceEqDiff reduceAdd reduceMul reduceLT reduceLeDiff)
set_option linter.all false
namespace Go.Am
open Go Go.RowKit
set_option linter.unusedSectionVars false
variable [Thaw]
variable {P : Program} {w0 : World} {V : View} {H : Heap} {W : World} {tm : List AV} {a : Act}
theorem getD_size {listed : Array Bool} {i : Nat} (h : i < listed.size) : listed.getD i true = listed.getD i false := by simp [h]
theorem ready_iff {ops : Array Oper} {listed : Array Bool} (hs : listed.size = ops.size) {i : Nat} :
   i ∈ Region.ready .any ops listed ↔ ∃ o, ops[i]? = some o /\ listed.getD i false = false /\ ∀ e ∈ o.after, Region.binds .any e = true -> listed.getD e.on false = true := by
 rw [mem_ready]
 constructor
 . rintro ⟨h1, o, h2, h3⟩
   have : i < listed.size := by rw [hs]; exact (Array.getElem?_eq_some_iff.1 h2).1
   exact ⟨o, h2, by rw [<- getD_size this]; exact h1, h3⟩
 . rintro ⟨o, h2, h1, h3⟩
   have : i < listed.size := by rw [hs]; exact (Array.getElem?_eq_some_iff.1 h2).1
   exact ⟨by rw [getD_size this]; exact h1, o, h2, h3⟩
theorem set_getD {listed : Array Bool} {i : Nat} (hi : i < listed.size) (j : Nat) : (listed.setIfInBounds i true).getD j false = (decide (i = j) || listed.getD j false) := by
 by_cases h : i = j
 . subst h; simp [hi]
 . simp [h, Array.getElem?_setIfInBounds_ne h]
theorem ready_some {ops : Array Oper} {listed : Array Bool} (hs : listed.size = ops.size) (hD : ∀ (j : Nat) (o : Oper) (e : Edge), ops[j]? = some o -> e ∈ o.after -> Region.binds .any e = true -> e.on < j)
   (h : Region.ready .any ops listed = []) : ∀ i, i < ops.size -> listed.getD i false = true := by
 intro i
 induction i using Nat.strongRecOn with
 | _ i ih =>
   intro hi
   cases hb : listed.getD i false with
   | true => rfl
   | false =>
     have : i ∈ Region.ready .any ops listed := (ready_iff hs).2 ⟨ops[i], by simp [hi], hb, fun e he hbd => by
       have := hD i _ e (by simp [hi]) he hbd
       exact ih e.on this (by omega)⟩
     rw [h] at this
     cases this
def cnt : List Bool -> Nat
 | [] => 0
 | b :: r => (if b then 0 else 1) + cnt r
theorem cnt_le : ∀ l, cnt l <= l.length
 | [] => Nat.le_refl _
 | b :: r => by rw [cnt, List.length_cons]; have := cnt_le r; split <;> omega
theorem cnt_set : ∀ (l : List Bool) (i : Nat), l[i]? = some false -> cnt (l.set i true) + 1 = cnt l
 | [], _, h => by simp at h
 | b :: r, 0, h => by simp at h; subst h; simp [cnt]; omega
 | b :: r, i + 1, h => by
   have := cnt_set r i (by simpa using h)
   simp only [List.set_cons_succ, cnt]
   omega
theorem cnt_zero : ∀ (l : List Bool), cnt l = 0 -> ∀ (i : Nat) (b : Bool), l[i]? = some b -> b = true
 | [], _, _, _, h => by simp at h
 | c :: r, hc, 0, b, h => by
   simp at h
   subst h
   rw [cnt] at hc
   cases c with
   | true => rfl
   | false => simp at hc
 | c :: r, hc, i + 1, b, h => by rw [cnt] at hc; exact cnt_zero r (by omega) i b (by simpa using h)
theorem aval_still {o : AOp} (h : o.still = true) (tm : List AV) (H H' : Heap) : aval o tm H = aval o tm H' := by
 cases o <;> first | rfl | cases h
theorem aact_load {o : AOp} {sz : Nat} {ag : Bool} {x : X} (h : o = .load sz ag x) (tm : List AV) (H : Heap) : aact o tm H = none := by subst h; rfl
theorem aact_quiet {o : AOp} (h : o.quiet = true) {tm tm' : List AV} (hx : ∀ x ∈ o.xs, x.ev tm = x.ev tm') (H : Heap) : aact o tm H = aact o tm' H := by
 cases o <;> first | rfl | (cases h; done) | (simp [AOp.xs] at hx; simp only [aact, hx])
theorem wantedA_congr {tm tm' : List AV} {o : AOper} (h : ∀ t ∈ o.reads, tm[t]? = tm'[t]?) : wantedA tm o.guard = wantedA tm' o.guard := by
 unfold wantedA
 split
 . rfl
 . rename_i g t b hg
   rw [h t (by simp [AOper.reads, hg])]
theorem evs_congr {tm tm' : List AV} {o : AOper} (h : ∀ t ∈ o.reads, tm[t]? = tm'[t]?) : ∀ x ∈ o.op.xs, x.ev tm = x.ev tm' := ev_congr (fun t ht => h t (by
   unfold AOper.reads
   split
   . exact ht
   . exact List.mem_cons_of_mem _ ht))
theorem quiet_nx {o : AOp} (hq : o.quiet = true) {tm : List AV} {H : Heap} {nx : Nx} {H' : Heap} (h : aact o tm H = some (nx, H')) : (∃ v, nx = .val v) ∨ nx = .skip := by
 cases o <;> first | (cases hq; done) | (cases h; done) | skip
 . simp only [aact] at h
   (repeat' split at h) <;> first | (cases h; done) | (cases h; exact .inr rfl)
 . simp only [aact, appV] at h
   (repeat' split at h) <;> first | (cases h; done) | (cases h; exact .inl ⟨_, rfl⟩)
def quiet1 (cb : CB) (o : AOper) (tm : List AV) (H : Heap) : Option (AV × Heap) :=
 if wantedA tm o.guard then
   match aval o.op tm H with
   | some v => some (v, H)
   | none => match aact o.op tm H with
     | some (.val v, H') => some (v, H')
     | some (.skip, H') => some (.tup [], H')
     | _ => none
 else some (.tup [], H)
theorem quiet_region {cb : CB} {rd : Option Nat} {o : AOper} (hq : o.op.quiet = true) {rest : List AOper} {fr : Fr} {H : Heap} {r : Ex × Fr × Heap} (h : aregion cb rd (o :: rest) fr H = some r) :
   ∃ v H1, quiet1 cb o fr.tm H = some (v, H1) /\ aregion cb rd rest { fr with tm := putD fr.tm o.dst v } H1 = some r := by
 rw [aregion] at h
 unfold quiet1
 split at h
 . rename_i hw
   rw [if_pos hw]
   split at h
   . rename_i v hv
     exact ⟨v, H, by rw [hv], h⟩
   . rename_i hv
     split at h
     . rename_i v H' ha; exact ⟨v, H', by rw [hv, ha], h⟩
     . rename_i H' ha; exact ⟨.tup [], H', by rw [hv, ha], h⟩
     all_goals first
       | (cases h; done)
       | (rename_i ha; rcases quiet_nx hq ha with ⟨_, e⟩ | e <;> cases e)
 . rename_i hw
   rw [if_neg hw]
   exact ⟨.tup [], H, rfl, h⟩
theorem quiet1_congr {cb : CB} {o : AOper} (hq : o.op.quiet = true) {tm tm' : List AV} (h : ∀ t ∈ o.reads, tm[t]? = tm'[t]?) (H : Heap) : quiet1 cb o tm H = quiet1 cb o tm' H := by
 unfold quiet1
 rw [wantedA_congr h, aval_congr (evs_congr h), aact_quiet hq (evs_congr h)]
theorem putM_L : ∀ (ws : List (Option Nat × AV)) (L L' : Nat -> Bool) (k : Nat) (tm : List AV), (∀ j, j < ws.length -> L (k + j) = L' (k + j)) -> putM ws L k tm = putM ws L' k tm
 | [], _, _, _, _, _ => rfl
 | (d, v) :: r, L, L', k, tm, h => by
   rw [putM, putM]
   have := h 0 (by simp)
   simp only [Nat.add_zero] at this
   rw [this]
   exact putM_L r L L' (k + 1) _ (fun j hj => by have := h (j + 1) (by simp; omega); simpa [Nat.add_assoc, Nat.add_comm 1 j] using this)
theorem putM_snoc (d : Option Nat) (v : AV) : ∀ (ws : List (Option Nat × AV)) (L : Nat -> Bool) (k : Nat) (tm : List AV), putM (ws ++ [(d, v)]) L k tm = if L (k + ws.length) then putD (putM ws L k tm) d v else putM ws L k tm
 | [], L, k, tm => by simp [putM]
 | (e, u) :: r, L, k, tm => by
   rw [List.cons_append, putM, putM, putM_snoc d v r L (k + 1) _, List.length_cons]
   have : k + 1 + r.length = k + (r.length + 1) := by omega
   rw [this]
def st1 (o : AOper) (tm : List AV) : Option AV := if wantedA tm o.guard then aval o.op tm [] else some (.tup [])
structure DrawOk (ops : Array Oper) (os : List AOper) (s : Nat) (fs : List Nat) : Prop where
 back : ∀ (j : Nat) (o : Oper) (e : Edge), ops[j]? = some o -> e ∈ o.after -> Region.binds .any e = true -> e.on < j
 pair : ∀ i j, i < j -> j < ops.size -> Ord ops i j ∨ ∃ x y, os[i]? = some x /\ os[j]? = some y /\ apartA x y = true /\ (j < s ∨ (i < s /\ (x.op.still = true ∨ i ∈ fs) /\ y.op.quiet = true))
theorem drawOk_sound {ops : Array Oper} {os : List AOper} {s : Nat} {fs : List Nat} (h : drawOk ops os (befL ops.toList []) s fs = true) : DrawOk ops os s fs := by
 have hb : ∀ k i, ((befL ops.toList []).getD k 0).testBit i = true -> Ord ops i k := befL_sound ops.toList [] (fun k => by simp) (fun k i h => by simp at h)
 unfold drawOk at h
 rw [List.all_eq_true] at h
 constructor
 . intro j o e ho he hbd
   have hj : j < ops.size := (Array.getElem?_eq_some_iff.1 ho).1
   have h1 := h j (by simpa using hj)
   rw [Bool.and_eq_true, ho] at h1
   have h2 := h1.1
   simp only [Option.map_some, Option.getD_some, List.all_eq_true] at h2
   have h3 := h2 e (by simpa using he)
   simpa [hbd] using h3
 . intro i j hij hj
   have h1 := h j (by simpa using hj)
   rw [Bool.and_eq_true] at h1
   have h2 := h1.2
   rw [List.all_eq_true] at h2
   have h3 := h2 i (by simpa using hij)
   rw [Bool.or_eq_true] at h3
   rcases h3 with h3 | h3
   . exact .inl (hb _ _ h3)
   . right
     unfold pairOk at h3
     split at h3
     . rename_i x y hx hy
       simp only [Bool.and_eq_true, Bool.or_eq_true, decide_eq_true_eq, List.contains_iff_mem] at h3
       exact ⟨x, y, hx, hy, h3.1, h3.2.imp id (fun h => ⟨h.1.1, h.1.2, h.2⟩)⟩
     . cases h3
theorem firstAct_le : ∀ l : List AOper, firstAct l <= l.length
 | [] => Nat.le_refl _
 | o :: r => by
   rw [firstAct]
   have := firstAct_le r
   split
   . rw [List.length_cons]; omega
   . exact Nat.zero_le _
theorem firstTail_le (b : List Nat) : ∀ n, firstTail b n <= n
 | 0 => Nat.le_refl _
 | n + 1 => by
   rw [firstTail]
   split
   . exact Nat.le_succ_of_le (firstTail_le b n)
   . exact Nat.le_refl _
theorem apartA_spec {x y : AOper} (h : apartA x y = true) : (∀ t, x.dst = some t -> t ∉ y.reads) /\ (∀ t, x.dst = some t -> y.dst ≠ some t) /\ (∀ t, y.dst = some t -> t ∉ x.reads) := by
 refine ⟨fun t ht => ?_, fun t ht => ?_, fun t ht => ?_⟩ <;> simp [apartA, ht] at h
 . exact h.1.1
 . exact h.1.2
 . exact h.2
structure FixOk (ops : Array Oper) (os : List AOper) (s : Nat) (fs : List Nat) (lx sx : List X) : Prop where
 ld : ∀ i, i ∈ fs -> ∃ y sz ag k, os[i]? = some y /\ y.op = .load sz ag (.t k) /\ X.t k ∈ lx /\ ∀ j z, i <= j -> os[j]? = some z -> z.dst ≠ some k
 st : ∀ i, i ∈ fs -> ∀ (j : Nat) (y : AOper) (sz : Nat) (a x : X), s <= j -> ¬ Ord ops i j -> os[j]? = some y -> y.op = .store sz a x -> X.c .nilp ∈ sx ∨ a ∈ sx
 dst : ∀ i, i ∈ fs -> ∀ (j : Nat) (y : AOper) (d : Nat), s <= j -> os[j]? = some y -> y.dst = some d -> d ∉ xreads (lx ++ sx)
theorem fixOk_sound {ops : Array Oper} {os : List AOper} {s : Nat} {fs : List Nat} {sx : List X} (hsx : sx = floatS os (befL ops.toList []) s fs ∨ sx = [.c .nilp]) (h : fixOk os s fs (floatL os fs) sx = true) : FixOk ops os s fs (floatL os fs) sx := by
 have hb : ∀ k i, ((befL ops.toList []).getD k 0).testBit i = true -> Ord ops i k := befL_sound ops.toList [] (fun k => by simp) (fun k i h => by simp at h)
 unfold fixOk at h
 rw [Bool.and_eq_true, List.all_eq_true, List.all_eq_true] at h
 have dr : ∀ (n j : Nat) (z : AOper), n <= j -> os[j]? = some z -> z ∈ os.drop n := by
   intro n j z hn hz
   refine List.mem_iff_getElem?.2 ⟨j - n, ?_⟩
   rw [List.getElem?_drop, show n + (j - n) = j by omega]
   exact hz
 refine ⟨fun i hi => ?_, fun i hi j y sz a x hj hno hy ho => ?_, fun i _ j y d hj hy hd => ?_⟩
 . have h1 := h.1 i hi
   split at h1
   . rename_i o ho
     split at h1
     . rename_i sz ag k hop
       rw [List.all_eq_true] at h1
       refine ⟨o, sz, ag, k, ho, hop, ?_, fun j z hj hz => ?_⟩
       . refine List.mem_flatMap.2 ⟨i, hi, ?_⟩
         simp [ho, hop, AOp.ldX]
       . have := h1 z (dr i j z hj hz)
         simpa using this
     . cases h1
   . cases h1
 . rcases hsx with rfl | rfl
   case inr => exact .inl (by simp)
   right
   have hjl : j < os.length := (List.getElem?_eq_some_iff.1 hy).1
   refine List.mem_flatMap.2 ⟨j, List.mem_range.2 hjl, ?_⟩
   have h1 : ((befL ops.toList []).getD j 0).testBit i = false := by
     cases hb1 : ((befL ops.toList []).getD j 0).testBit i with
     | false => rfl
     | true => exact absurd (hb j i hb1) hno
   have h2 : (decide (s <= j) && fs.any (fun i => !((befL ops.toList []).getD j 0).testBit i)) = true := by
     rw [Bool.and_eq_true]
     exact ⟨by simpa using hj, List.any_eq_true.2 ⟨i, hi, by rw [h1]; rfl⟩⟩
   rw [if_pos h2, hy]
   simp [ho, AOp.stX]
 . have := h.2 y (dr s j y hj hy)
   rw [hd] at this
   simpa using this
theorem offP_ne {id id' o : Nat} : ∀ {l : List AV}, offP id l = true -> AV.ptr id' o ∈ l -> id' ≠ id
 | [], _, h => by simp at h
 | v :: l, h, hm => by
   have re : offP id l = true -> AV.ptr id' o ∈ l -> id' ≠ id := offP_ne
   cases v with
   | ptr i p =>
     rw [offP] at h
     split at h
     . cases h
     . rename_i hne
       rcases List.mem_cons.1 hm with e | e
       . cases e; exact hne
       . exact re h e
   | nilp => rw [offP] at h; cases h
   | _ => exact re h ((List.mem_cons.1 hm).resolve_left (by intro e; cases e))
theorem floatV_ne {id id' o o' : Nat} {ss : List AV} : ∀ {l : List AV}, floatV l ss = true -> AV.ptr id o ∈ l -> AV.ptr id' o' ∈ ss -> id' ≠ id
 | [], _, h, _ => by simp at h
 | v :: l, h, hm, hs => by
   have re : floatV l ss = true -> AV.ptr id o ∈ l -> AV.ptr id' o' ∈ ss -> id' ≠ id := floatV_ne
   cases v with
   | ptr i p =>
     rw [floatV] at h
     split at h
     . rename_i ho
       rcases List.mem_cons.1 hm with e | e
       . cases e; exact offP_ne ho hs
       . exact re h e hs
     . cases h
   | eptr cs =>
     rw [floatV] at h
     exact re h ((List.mem_cons.1 hm).resolve_left (by intro e; cases e)) hs
   | _ => simp [floatV] at h
theorem offP_nilp {id : Nat} : ∀ {l : List AV}, offP id l = true -> AV.nilp ∉ l
 | [], _ => by simp
 | v :: l, h => by
   have re : offP id l = true -> AV.nilp ∉ l := offP_nilp
   cases v with
   | ptr i p =>
     rw [offP] at h
     split at h
     . cases h
     . intro hm
       rcases List.mem_cons.1 hm with e | e
       . cases e
       . exact re h e
   | nilp => rw [offP] at h; cases h
   | _ =>
     intro hm
     rcases List.mem_cons.1 hm with e | e
     . cases e
     . exact re h e
theorem floatV_nilp {id o : Nat} {ss : List AV} : ∀ {l : List AV}, floatV l ss = true -> AV.ptr id o ∈ l -> AV.nilp ∉ ss
 | [], _, h => by simp at h
 | v :: l, h, hm => by
   have re : floatV l ss = true -> AV.ptr id o ∈ l -> AV.nilp ∉ ss := floatV_nilp
   cases v with
   | ptr i p =>
     rw [floatV] at h
     split at h
     . rename_i ho
       exact offP_nilp ho
     . cases h
   | eptr cs =>
     rw [floatV] at h
     exact re h ((List.mem_cons.1 hm).resolve_left (by intro e; cases e))
   | _ => simp [floatV] at h
theorem quiet_cells {cb : CB} {o : AOper} (hq : o.op.quiet = true) {tm : List AV} {H H1 : Heap} {v : AV} (h : quiet1 cb o tm H = some (v, H1)) {id : Nat} {cs : List AV}
   (hs : ∀ sz a x, o.op = .store sz a x -> ∀ id' p, a.ev tm = .ptr id' p -> id' ≠ id) (hg : H[id]? = some (.cells cs)) : H1[id]? = some (.cells cs) := by
 unfold quiet1 at h
 split at h
 . split at h
   . cases h; exact hg
   . have key : ∀ nx, aact o.op tm H = some (nx, H1) -> H1[id]? = some (.cells cs) := by
       intro nx ha
       have hlt : id < H.length := (List.getElem?_eq_some_iff.1 hg).1
       cases ho : o.op <;> rw [ho] at ha hq <;> first | (cases hq; done) | (cases ha; done) | skip
       . rename_i sz a x
         simp only [aact] at ha
         split at ha
         . rename_i id' p ha'
           have hne := hs sz a x ho id' p ha'
           (repeat' split at ha) <;> first | (cases ha; done) | skip
           cases ha
           rw [List.getElem?_set]
           rw [if_neg hne]
           exact hg
         . cases ha
       . simp only [aact, appV] at ha
         (repeat' split at ha) <;> first | (cases ha; done) | skip
         all_goals first
           | (cases ha; exact hg)
           | (cases ha; rw [List.getElem?_append_left hlt]; exact hg)
           | skip
         all_goals
           cases ha
           rename_i g _ _ hgt _
           rw [List.getElem?_append_left (by rw [List.length_set]; exact hlt), List.getElem?_set]
           rw [if_neg (fun e => by subst e; rw [hg] at hgt; cases hgt)]
           exact hg
     split at h
     . rename_i ha; cases h; exact key _ ha
     . rename_i ha; cases h; exact key _ ha
     . cases h
 . cases h; exact hg
theorem quiet1_load {cb : CB} {y : AOper} {sz : Nat} {ag : Bool} {x : X} (ho : y.op = .load sz ag x) {tm : List AV} {H H1 : Heap} {v : AV} (h : quiet1 cb y tm H = some (v, H))
   (hk : ∀ id p cs, x.ev tm = .ptr id p -> H[id]? = some (.cells cs) -> H1[id]? = some (.cells cs)) : quiet1 cb y tm H1 = some (v, H1) := by
 unfold quiet1 at h ⊢
 split at h
 . rename_i hw
   rw [if_pos hw]
   rw [ho] at h ⊢
   split at h
   . rename_i u hv
     cases h
     have : aval (.load sz ag x) tm H1 = some v := by
       simp only [aval] at hv ⊢
       split at hv
       . rename_i id p he
         split at hv
         . rename_i cs hg
           rw [hk id p cs he hg]
           exact hv
         . cases hv
       . exact hv
       . cases hv
     rw [this]
   . rename_i hv
     simp [aact] at h
 . rename_i hw
   rw [if_neg hw]
   cases h
   rfl
theorem quiet1_still {cb : CB} {y : AOper} (hs : y.op.still = true) {tm : List AV} {H H1 : Heap} {v : AV} (h : quiet1 cb y tm H = some (v, H)) : quiet1 cb y tm H1 = some (v, H1) := by
 have hn : ∀ H', aact y.op tm H' = none := by
   intro H'
   revert hs
   cases y.op <;> intro hs <;> first | rfl | cases hs
 unfold quiet1 at h ⊢
 split at h
 . rename_i hw
   rw [if_pos hw]
   rw [aval_still hs tm H1 H]
   split at h
   . rename_i u hv
     cases h
     rfl
   . rw [hn] at h
     cases h
 . rename_i hw
   rw [if_neg hw]
   cases h
   rfl
theorem quiet1_congr' {cb : CB} {o : AOper} (hq : o.op.quiet = true ∨ ∃ sz ag x, o.op = .load sz ag x) {tm tm' : List AV} (h : ∀ t ∈ o.reads, tm[t]? = tm'[t]?) (H : Heap) : quiet1 cb o tm H = quiet1 cb o tm' H := by
 rcases hq with hq | ⟨sz, ag, x, ho⟩
 . exact quiet1_congr hq h H
 . unfold quiet1
   rw [wantedA_congr h, aval_congr (evs_congr h), aact_load ho, aact_load ho]
section
variable {cb : CB} {rd ro : Option Nat} {ops : Array Oper} {os : List AOper} {s : Nat} {fs : List Nat} {lx sx : List X} {Q : Exit -> Act -> World -> Prop} {r : Ex × Fr × Heap}
theorem draw_tail (hcb : CbOk P cb) (hos : mapO (cOper P ops) ops.toList = some os) (hD : DrawOk ops os s fs) : ∀ (fuel k : Nat) (listed : Array Bool) (V : View) (W : World) (a : Act) (fr : Fr) (H : Heap),
   listed.size = ops.size -> (∀ i, i < ops.size -> listed.getD i false = decide (i < k)) -> s <= k -> k <= ops.size -> ops.size - k <= fuel -> RdR V rd ro -> FrR V fr a -> WR P w0 V H W →
   aregion cb rd (os.drop k) fr H = some r -> (∀ V' a' W' ex, Grow w0 V V' -> WR P w0 V' r.2.2 W' -> FrR V' r.2.1 a' -> ExR V' r.1 ex -> Q ex a' W') →
   wpAnyIn (Fk ro) 0 P .any ops Q fuel listed a W := by
 obtain ⟨hlen, hmap⟩ := mapO_some hos
 simp only [Array.length_toList] at hlen
 have fin : ∀ (V : View) (W : World) (a : Act) (fr : Fr) (H : Heap), FrR V fr a -> WR P w0 V H W -> aregion cb rd (os.drop ops.size) fr H = some r →
     (∀ V' a' W' ex, Grow w0 V V' -> WR P w0 V' r.2.2 W' -> FrR V' r.2.1 a' -> ExR V' r.1 ex -> Q ex a' W') -> Q .normal a W := by
   intro V W a fr H hF hW h hQ
   rw [List.drop_of_length_le (by omega)] at h
   cases h
   exact hQ V a W _ (.refl w0 V) hW hF trivial
 have only : ∀ (k : Nat) (listed : Array Bool), listed.size = ops.size -> (∀ i, i < ops.size -> listed.getD i false = decide (i < k)) -> s <= k -> ∀ i ∈ Region.ready .any ops listed, i = k := by
   intro k listed hs hl hk i hi
   obtain ⟨o, ho, hu, hr⟩ := (ready_iff hs).1 hi
   have hin : i < ops.size := (Array.getElem?_eq_some_iff.1 ho).1
   have h1 : ¬ i < k := by rw [hl i hin] at hu; simpa using hu
   rcases Nat.lt_trichotomy i k with h | h | h
   . exact absurd h h1
   . exact h
   . exfalso
     rcases hD.pair k i h hin with ho2 | ⟨_, _, _, _, _, h2⟩
     . have hcl : Closed ops (fun i => listed.getD i false) := by
         intro j o e ho hj he hb
         have hjn : j < ops.size := (Array.getElem?_eq_some_iff.1 ho).1
         have h3 := hD.back j o e ho he hb
         have h4 : j < k := by have := hj; simp only [hl j hjn] at this; simpa using this
         show listed.getD e.on false = true
         rw [hl e.on (by omega)]
         simp; omega
       have := ho2.ready hcl (fun o' e ho' he hb => by rw [ho] at ho'; cases ho'; exact hr e he hb)
       simp only [hl k (by omega)] at this
       simp at this
     . omega
 intro fuel
 induction fuel with
 | zero =>
   intro k listed V W a fr H hs hl hk hkn hf hrd hF hW h hQ
   have hkn' : k = ops.size := by omega
   subst hkn'
   refine ⟨?_, fin V W a fr H hF hW h hQ⟩
   apply List.eq_nil_iff_forall_not_mem.2
   intro i hi
   obtain ⟨o, ho, hu, _⟩ := (ready_iff hs).1 hi
   have hin : i < ops.size := (Array.getElem?_eq_some_iff.1 ho).1
   rw [hl i hin] at hu
   simp [hin] at hu
 | succ fuel ih =>
   intro k listed V W a fr H hs hl hk hkn hf hrd hF hW h hQ
   refine ⟨fun h0 => ?_, fun i hi => ?_⟩
   . have := ready_some hs hD.back h0
     have hkn' : k = ops.size := by
       apply Nat.le_antisymm hkn
       apply Nat.le_of_not_lt
       intro hlt
       have h1 := this k hlt
       rw [hl k hlt] at h1
       simp at h1
     subst hkn'
     exact fin V W a fr H hF hW h hQ
   . have hik := only k listed hs hl hk i hi
     subst hik
     obtain ⟨o, ho, hu, _⟩ := (ready_iff hs).1 hi
     have hin : i < ops.size := (Array.getElem?_eq_some_iff.1 ho).1
     obtain ⟨ao, hc, hao⟩ := hmap i o (by simpa using ho)
     have hdrop : os.drop i = ao :: os.drop (i + 1) := by
       rw [List.drop_eq_getElem_cons (by omega)]
       congr 1
       have := (List.getElem?_eq_some_iff.1 hao).2
       exact this
     rw [hdrop] at h
     unfold wpOpIn
     rw [ho]
     exact oper_ok hcb hrd hc hF hW h (fun V' a' W' fr' H' g1 g2 g3 g4 => ih (i + 1) _ V' W' a' fr' H' (by simpa using hs) (fun j hj => by
         rw [set_getD (by omega), hl j hj]
         by_cases h1 : i = j
         . subst h1; simp
         . simp only [h1, decide_false, Bool.false_or, decide_eq_decide]
           omega) (by omega) (by omega) (by omega) (hrd.mono g1.le) g3 g2 g4 fun V'' a'' W'' ex k1 => hQ V'' a'' W'' ex (g1.trans k1)) hQ
theorem still_quiet {o : AOp} (h : o.still = true) : o.quiet = true := by cases o <;> first | exact h | rfl
theorem quiet_step {o : Oper} {ao : AOper} {fr : Fr} {next : Act -> World -> Prop} {v : AV} {H1 : Heap} (hc : cOper P ops o = some ao) (hF : FrR V fr a) (hW : WR P w0 V H W) (hq : ∀ x xs, ao.op ≠ .dfr x xs) (h : quiet1 cb ao fr.tm H = some (v, H1))
   (hn : ∀ V' a' W', Grow w0 V V' -> WR P w0 V' H1 W' -> FrR V' { fr with tm := putD fr.tm ao.dst v } a' -> next a' W') :
   if Region.wanted o (yielded ops a.tmps) then o.wpIn (Fk ro) 0 P a W next Q else (∀ f, o.about P W a.eval = some f -> (Fk ro).fn f) /\ next (a.put o.dst undef) W := by
 obtain ⟨hop, hdst⟩ := oper_parts hc
 rw [wanted_ok hF.tm hc, hdst]
 unfold quiet1 at h
 have hnd := not_defer hop hq
 split at h
 . rename_i hw
   rw [if_pos hw]
   refine ⟨fun _ _ => trivial, ?_⟩
   split at h
   . rename_i u hv
     cases h
     obtain ⟨V', W', u, h1, h2, h3, h4, _⟩ := aval_sound hW hF.tm hop hv
     rw [Oper.semAt_eq _ _ _ hnd, h1, Oper.uponIn_value, hdst]
     exact hn V' _ W' (h3.grow hW.size (by simp)) h4 (put_ok hF h3.le h2 _)
   . split at h
     . rename_i u H' hv
       cases h
       obtain ⟨V', W', u, h1, h2, h3, h4⟩ := aact_sound hW hF.tm hop hv
       rw [Oper.semAt_eq _ _ _ hnd, h1, Oper.uponIn_value, hdst]
       exact hn V' _ W' h3 h4 (put_ok hF h3.le h2 _)
     . rename_i H' hv
       cases h
       obtain ⟨V', W', h1, h3, h4⟩ := aact_sound hW hF.tm hop hv
       rw [Oper.semAt_eq _ _ _ hnd, h1, Oper.uponIn_skip, hdst]
       exact hn V' _ W' h3 h4 (put_ok hF h3.le (Rep.undef V') _)
     . cases h
 . rename_i hw
   rw [if_neg hw]
   cases h
   exact ⟨fun _ _ => trivial, hn V _ W (.refl w0 V) hW (put_ok hF (.refl V) (Rep.undef V) _)⟩
theorem draw_float (hcb : CbOk P cb) (hos : mapO (cOper P ops) ops.toList = some os) (hD : DrawOk ops os s fs) (hX : FixOk ops os s fs lx sx)
   (tailk : ∀ (fuel k : Nat) (listed : Array Bool) (V : View) (W : World) (a : Act) (fr : Fr) (H : Heap),
     listed.size = ops.size -> (∀ i, i < ops.size -> listed.getD i false = decide (i < k)) -> s <= k -> k <= ops.size -> ops.size - k <= fuel -> RdR V rd ro -> FrR V fr a -> WR P w0 V H W →
     aregion cb rd (os.drop k) fr H = some r -> (∀ V' a' W' ex, Grow w0 V V' -> WR P w0 V' r.2.2 W' -> FrR V' r.2.1 a' -> ExR V' r.1 ex -> Q ex a' W') →
     wpAnyIn (Fk ro) 0 P .any ops Q fuel listed a W) {fr : Fr} :
   ∀ (fuel t : Nat) (wx : List (Option Nat × AV)) (listed : Array Bool) (V : View) (W : World) (a : Act) (Ht : Heap),
   wx.length = s + t -> s + t <= ops.size -> (∀ (j : Nat) (u : Option Nat × AV), wx[j]? = some u -> ∃ y, os[j]? = some y /\ u.1 = y.dst) →
   listed.size = ops.size -> cnt (listed.toList.take s) + (ops.size - (s + t)) <= fuel -> Closed ops (fun i => listed.getD i false) -> (∀ i, s <= i -> i < ops.size -> listed.getD i false = decide (i < s + t)) →
   (∀ m, m < s -> listed.getD m false = false -> ∃ y v, os[m]? = some y /\ (y.op.still = true ∨ m ∈ fs) /\ wx[m]? = some (y.dst, v) /\ quiet1 cb y (putM wx (fun j => decide (j < m)) 0 fr.tm) Ht = some (v, Ht)) →
   (fs ≠ [] -> floatV (lx.map (·.ev (putM wx (fun _ => true) 0 fr.tm))) (sx.map (·.ev (putM wx (fun _ => true) 0 fr.tm))) = true) →
   RdR V rd ro -> FrR V { fr with tm := putM wx (fun i => listed.getD i false) 0 fr.tm } a -> WR P w0 V Ht W →
   aregion cb rd (os.drop (s + t)) { fr with tm := putM wx (fun _ => true) 0 fr.tm } Ht = some r →
   (∀ V' a' W' ex, Grow w0 V V' -> WR P w0 V' r.2.2 W' -> FrR V' r.2.1 a' -> ExR V' r.1 ex -> Q ex a' W') →
   wpAnyIn (Fk ro) 0 P .any ops Q fuel listed a W := by
 obtain ⟨hlen, hmap⟩ := mapO_some hos
 simp only [Array.length_toList] at hlen
 intro fuel
 induction fuel with
 | zero =>
   intro t wx listed V W a Ht hwl hst hwd hs hcn hcl hun hfl hfv hrd hF hW h hQ
   have hall : ∀ i, i < s -> listed.getD i false = true := by
     intro i hi
     have hil : i < listed.size := by omega
     have := cnt_zero (listed.toList.take s) (by omega) i listed[i] (by rw [List.getElem?_take, if_pos hi]; simp [hil])
     simp [hil, this]
   have e : putM wx (fun i => listed.getD i false) 0 fr.tm = putM wx (fun _ => true) 0 fr.tm := putM_L wx _ _ 0 _ (fun j hj => by
     simp only [Nat.zero_add]
     by_cases hjs : j < s
     . exact hall j hjs
     . rw [hun j (by omega) (by omega)]; simp; omega)
   rw [e] at hF
   exact tailk 0 (s + t) listed V W a _ Ht hs (fun i hi => by
     by_cases his : i < s
     . rw [hall i his]; simp; omega
     . exact hun i (by omega) hi) (by omega) hst (by omega) hrd hF hW h hQ
 | succ fuel ih =>
   intro t wx listed V W a Ht hwl hst hwd hs hcn hcl hun hfl hfv hrd hF hW h hQ
   by_cases hall : ∀ i, i < s -> listed.getD i false = true
   . have e : putM wx (fun i => listed.getD i false) 0 fr.tm = putM wx (fun _ => true) 0 fr.tm := putM_L wx _ _ 0 _ (fun j hj => by
       simp only [Nat.zero_add]
       by_cases hjs : j < s
       . exact hall j hjs
       . rw [hun j (by omega) (by omega)]; simp; omega)
     rw [e] at hF
     exact tailk (fuel + 1) (s + t) listed V W a _ Ht hs (fun i hi => by
       by_cases his : i < s
       . rw [hall i his]; simp; omega
       . exact hun i (by omega) hi) (by omega) hst (by omega) hrd hF hW h hQ
   . have hex : ∃ m, m < s /\ listed.getD m false = false := by
       apply Classical.byContradiction
       intro hno
       apply hall
       intro i hi
       cases hb : listed.getD i false with
       | true => rfl
       | false => exact absurd ⟨i, hi, hb⟩ hno
     obtain ⟨m, hm, hmu⟩ := hex
     refine ⟨fun h0 => ?_, fun i hi => ?_⟩
     . have := ready_some hs hD.back h0 m (by omega)
       rw [hmu] at this
       cases this
     . obtain ⟨o, ho, hu, hr⟩ := (ready_iff hs).1 hi
       have hin : i < ops.size := (Array.getElem?_eq_some_iff.1 ho).1
       have hrd' : ∀ j, Ord ops j i -> listed.getD j false = true := fun j hj => hj.ready hcl (fun o' e ho' he hb => by rw [ho] at ho'; cases ho'; exact hr e he hb)
       obtain ⟨ao, hc, hao⟩ := hmap i o (by simpa using ho)
       have later : ∀ j, Ord ops i j -> listed.getD j false = false := by
         intro j hord
         cases hb : listed.getD j false with
         | false => rfl
         | true =>
           have := hord.listed hcl (L := fun i => listed.getD i false) hb
           simp only [hu] at this
           cases this
       by_cases his : i < s
       . -- a still one
         obtain ⟨y, v, hy, hys, hwv, hv⟩ := hfl i his hu
         rw [hao] at hy
         cases hy
         have cur : ∀ t' ∈ ao.reads, (putM wx (fun i => listed.getD i false) 0 fr.tm)[t']? = (putM wx (fun j => decide (j < i)) 0 fr.tm)[t']? := by
           intro t' ht
           refine putM_congr wx _ _ 0 _ _ rfl rfl (fun j u hj => ?_)
           obtain ⟨y, hy, hyd⟩ := hwd j _ hj
           simp only [Nat.zero_add]
           have hjn : j < ops.size := by have := (List.getElem?_eq_some_iff.1 hj).1; omega
           rcases Nat.lt_trichotomy j i with hji | hji | hji
           . rw [decide_eq_true hji]
             rcases hD.pair j i hji hin with h1 | ⟨x, z, hx, hz, hxz, _⟩
             . exact hrd' j h1
             . rw [hy] at hx; rw [hao] at hz
               cases hx; cases hz
               exact absurd ht ((apartA_spec hxz).1 t' hyd.symm)
           . subst hji
             rw [hu]; simp
           . rw [decide_eq_false (by omega)]
             rcases hD.pair i j hji hjn with h1 | ⟨x, z, hx, hz, hxz, _⟩
             . exact later j h1
             . rw [hao] at hx; rw [hy] at hz
               cases hx; cases hz
               exact absurd ht ((apartA_spec hxz).2.2 t' hyd.symm)
         have hyk : ao.op.quiet = true ∨ ∃ sz ag x, ao.op = .load sz ag x := by
           rcases hys with h1 | h1
           . exact .inl (still_quiet h1)
           . obtain ⟨z, sz, ag, k, hz, hzo, _⟩ := hX.ld i h1
             rw [hao] at hz
             cases hz
             exact .inr ⟨sz, ag, _, hzo⟩
         rw [<- quiet1_congr' hyk cur] at hv
         have hput : putD (putM wx (fun i => listed.getD i false) 0 fr.tm) ao.dst v = putM wx (fun j => (listed.setIfInBounds i true).getD j false) 0 fr.tm := by
           apply List.ext_getElem?
           intro t'
           by_cases hdt : ao.dst = some t'
           . by_cases htl : t' < fr.tm.length
             . rw [hdt, putD_eq (by rw [putM_length]; exact htl)]
               refine (putM_last wx _ 0 i fr.tm (by rw [hwv, hdt]) (by rw [set_getD (by omega)]; simp) htl (fun j u hj hw => ?_)).symm
               obtain ⟨y, hy, hyd⟩ := hwd j _ hw
               have hjn : j < ops.size := by have := (List.getElem?_eq_some_iff.1 hw).1; omega
               simp only [Nat.zero_add]
               rw [set_getD (by omega)]
               have hne : ¬ i = j := by omega
               simp only [hne, decide_false, Bool.false_or]
               rcases hD.pair i j hj hjn with h1 | ⟨x, z, hx, hz, hxz, _⟩
               . exact later j h1
               . rw [hao] at hx; rw [hy] at hz
                 cases hx; cases hz
                 exact absurd hyd.symm ((apartA_spec hxz).2.1 t' hdt)
             . rw [List.getElem?_eq_none (by rw [putD_length, putM_length]; omega), List.getElem?_eq_none (by rw [putM_length]; omega)]
           . rw [putD_ne hdt]
             refine putM_congr wx _ _ 0 _ _ rfl rfl (fun j u hj => ?_)
             obtain ⟨y, hy, hyd⟩ := hwd j _ hj
             simp only [Nat.zero_add]
             rw [set_getD (by omega)]
             have hne : ¬ i = j := by
               rintro rfl
               rw [hao] at hy
               cases hy
               exact hdt hyd.symm
             simp [hne]
         unfold wpOpIn
         rw [ho]
         refine quiet_step (cb := cb) hc hF hW (by
           rintro x xs hx
           rcases hyk with h1 | ⟨_, _, _, h1⟩
           . rw [hx] at h1; cases h1
           . rw [hx] at h1; cases h1) hv (fun V' a' W' g1 g2 g3 => ?_)
         simp only [hput] at g3
         refine ih t wx _ V' W' a' Ht hwl hst hwd (by simpa using hs) ?_ ?_ (fun j hj hjn => ?_) (fun m' hm' hmu' => ?_) hfv (hrd.mono g1.le) g3 g2 h (fun V'' a'' W'' ex k1 => hQ V'' a'' W'' ex (g1.trans k1))
         . have : cnt ((listed.toList.take s).set i true) + 1 = cnt (listed.toList.take s) := cnt_set _ i (by
             have hil : i < listed.size := by omega
             rw [List.getElem?_take, if_pos his]
             simp [hil] at hu ⊢
             exact hu)
           rw [Array.toList_setIfInBounds, List.take_set]
           omega
         . intro j o' e ho' hj he hb
           simp only [set_getD (show i < listed.size by omega)] at hj ⊢
           rw [Bool.or_eq_true] at hj ⊢
           rcases hj with hj | hj
           . simp at hj
             subst hj
             rw [ho] at ho'
             cases ho'
             exact .inr (hr e he hb)
           . exact .inr (hcl j o' e ho' hj he hb)
         . rw [set_getD (by omega), hun j hj hjn]
           have hne : ¬ i = j := by omega
           simp [hne]
         . rw [set_getD (by omega), Bool.or_eq_false_iff] at hmu'
           exact hfl m' hm' hmu'.2
       . -- the next act
         have hit : i = s + t := by
           rcases Nat.lt_trichotomy i (s + t) with h1 | h1 | h1
           . rw [hun i (by omega) hin] at hu; simp at hu; omega
           . exact h1
           . exfalso
             rcases hD.pair (s + t) i h1 hin with h2 | ⟨_, _, _, _, _, h2⟩
             . have := hrd' _ h2
               rw [hun (s + t) (by omega) (by omega)] at this
               simp at this
             . omega
         have apt : ∀ m', m' < s -> listed.getD m' false = false -> ∃ x, os[m']? = some x /\ apartA x ao = true /\ ao.op.quiet = true := by
           intro m' hm' hmu'
           rcases hD.pair m' i (by omega) hin with h1 | ⟨x, z, hx, hz, hxz, h2⟩
           . have := hrd' _ h1
             rw [hmu'] at this
             cases this
           . rw [hao] at hz
             cases hz
             rcases h2 with h2 | h2
             . omega
             . exact ⟨x, hx, hxz, h2.2.2⟩
         obtain ⟨_, _, _, hq⟩ := apt m hm hmu
         subst hit
         have hdrop : os.drop (s + t) = ao :: os.drop (s + (t + 1)) := by
           rw [List.drop_eq_getElem_cons (by omega)]
           congr 1
           exact (List.getElem?_eq_some_iff.1 hao).2
         rw [hdrop] at h
         obtain ⟨v, H1, q1, q2⟩ := quiet_region hq h
         have cur : ∀ t' ∈ ao.reads, (putM wx (fun i => listed.getD i false) 0 fr.tm)[t']? = (putM wx (fun _ => true) 0 fr.tm)[t']? := by
           intro t' ht
           refine putM_congr wx _ _ 0 _ _ rfl rfl (fun j u hj => ?_)
           obtain ⟨y, hy, hyd⟩ := hwd j _ hj
           simp only [Nat.zero_add]
           have hjn : j < s + t := by have := (List.getElem?_eq_some_iff.1 hj).1; omega
           cases hb : listed.getD j false with
           | true => rfl
           | false =>
             have hjs : j < s := by
               apply Nat.lt_of_not_le
               intro hle
               rw [hun j hle (by omega)] at hb
               simp at hb
               omega
             obtain ⟨x, hx, hxa, _⟩ := apt j hjs hb
             rw [hy] at hx
             cases hx
             exact absurd ht ((apartA_spec hxa).1 t' hyd.symm)
         have q1' : quiet1 cb ao (putM wx (fun i => listed.getD i false) 0 fr.tm) Ht = some (v, H1) := by
           rw [quiet1_congr hq cur]; exact q1
         unfold wpOpIn
         rw [ho]
         refine quiet_step (cb := cb) hc hF hW (by rintro x xs hx; rw [hx] at hq; cases hq) q1' (fun V' a' W' g1 g2 g3 => ?_)
         have hL : ∀ j, j < wx.length -> listed.getD (0 + j) false = (listed.setIfInBounds (s + t) true).getD (0 + j) false := by
           intro j hj
           rw [set_getD (by omega)]
           have hne : ¬ s + t = 0 + j := by omega
           simp only [hne, decide_false, Bool.false_or]
         have hput : putD (putM wx (fun i => listed.getD i false) 0 fr.tm) ao.dst v = putM (wx ++ [(ao.dst, v)]) (fun j => (listed.setIfInBounds (s + t) true).getD j false) 0 fr.tm := by
           rw [putM_snoc, putM_L wx (fun i => listed.getD i false) (fun j => (listed.setIfInBounds (s + t) true).getD j false) 0 fr.tm hL]
           rw [if_pos (by rw [Nat.zero_add, hwl, set_getD (by omega)]; simp)]
         have hfull : putD (putM wx (fun _ => true) 0 fr.tm) ao.dst v = putM (wx ++ [(ao.dst, v)]) (fun _ => true) 0 fr.tm := by
           rw [putM_snoc, if_pos rfl]
         simp only [hput] at g3
         simp only [hfull] at q2
         refine ih (t + 1) (wx ++ [(ao.dst, v)]) _ V' W' a' H1 (by rw [List.length_append, hwl]; rfl) (by omega) (fun j u hj => ?_) (by simpa using hs) ?_ ?_ (fun j hj hjn => ?_) (fun m' hm' hmu' => ?_) (fun hne => ?_) (hrd.mono g1.le) g3 g2 q2 (fun V'' a'' W'' ex k1 => hQ V'' a'' W'' ex (g1.trans k1))
         . by_cases hjl : j < wx.length
           . rw [List.getElem?_append_left hjl] at hj
             exact hwd j u hj
           . rw [List.getElem?_append_right (by omega)] at hj
             have : j - wx.length = 0 := by have := (List.getElem?_eq_some_iff.1 hj).1; simp at this; omega
             rw [this] at hj
             cases hj
             have : j = s + t := by omega
             subst this
             exact ⟨ao, hao, rfl⟩
         . have : ((listed.setIfInBounds (s + t) true).toList.take s) = listed.toList.take s := by
             rw [Array.toList_setIfInBounds, List.take_set_of_le (by omega)]
           rw [this]
           omega
         . intro j o' e ho' hj he hb
           simp only [set_getD (show s + t < listed.size by omega)] at hj ⊢
           rw [Bool.or_eq_true] at hj ⊢
           rcases hj with hj | hj
           . simp at hj
             subst hj
             rw [ho] at ho'
             cases ho'
             exact .inr (hr e he hb)
           . exact .inr (hcl j o' e ho' hj he hb)
         . rw [set_getD (by omega), hun j hj hjn]
           by_cases hne : s + t = j
           . subst hne; simp
           . simp only [hne, decide_false, Bool.false_or, decide_eq_decide]
             omega
         . rw [set_getD (by omega), Bool.or_eq_false_iff] at hmu'
           obtain ⟨y, u, y1, y2, y3, y4⟩ := hfl m' hm' hmu'.2
           refine ⟨y, u, y1, y2, by rw [List.getElem?_append_left (by omega)]; exact y3, ?_⟩
           rw [putM_snoc, if_neg (by simp; omega)]
           rcases y2 with h1 | h1
           . exact quiet1_still h1 y4
           . obtain ⟨z, sz, ag, k, hz, hzo, hzl, hzd⟩ := hX.ld m' h1
             rw [y1] at hz
             cases hz
             refine quiet1_load hzo y4 (fun id p cs he hg => quiet_cells hq q1 (fun sz' a' x' ho' id' p' ha' => ?_) hg)
             have hk : (X.t k).ev (putM wx (fun j => decide (j < m')) 0 fr.tm) = (X.t k).ev (putM wx (fun _ => true) 0 fr.tm) := by
               have : (putM wx (fun j => decide (j < m')) 0 fr.tm)[k]? = (putM wx (fun _ => true) 0 fr.tm)[k]? := putM_congr wx _ _ 0 _ _ rfl rfl (fun j v hj => by
                 obtain ⟨w, hw, hwd'⟩ := hwd j _ hj
                 simp only [Nat.zero_add]
                 by_cases hjm : j < m'
                 . simp [hjm]
                 . exact absurd hwd'.symm (hzd j w (by omega) hw))
               simp [X.ev, List.getD_eq_getElem?_getD, this]
             rw [hk] at he
             rcases hX.st m' h1 (s + t) ao sz' a' x' (by omega) (fun ho2 => by have := hrd' _ ho2; rw [hmu'.2] at this; cases this) hao ho' with hsn | hsm
             . exact absurd (List.mem_map.2 ⟨_, hsn, rfl⟩) (floatV_nilp (hfv (List.ne_nil_of_mem h1)) (List.mem_map.2 ⟨_, hzl, he⟩))
             . exact floatV_ne (hfv (List.ne_nil_of_mem h1)) (List.mem_map.2 ⟨_, hzl, he⟩) (List.mem_map.2 ⟨_, hsm, ha'⟩)
         . obtain ⟨i0, hi0⟩ := List.exists_mem_of_ne_nil fs hne
           have hdd := hX.dst i0 hi0 (s + t) ao
           rw [<- hfull]
           have hev : ∀ x ∈ lx ++ sx, x.ev (putD (putM wx (fun _ => true) 0 fr.tm) ao.dst v) = x.ev (putM wx (fun _ => true) 0 fr.tm) := ev_congr (fun t' ht' => by
             cases hd : ao.dst with
             | none => rfl
             | some d =>
               refine putD_ne (fun e => ?_)
               have e2 := Option.some.inj e
               subst e2
               exact hdd d (by omega) hao hd ht')
           have e1 := hfv hne
           rw [List.map_congr_left (fun x hx => hev x (List.mem_append.2 (.inl hx))), List.map_congr_left (l := sx) (fun x hx => hev x (List.mem_append.2 (.inr hx)))]
           exact e1
theorem ap1_fl {G : Heap} {o : AOper} {tm : List AV} {g : Nat} {v : AV} {k : Option AObj} (hs : o.op.still = true ∨ ∃ sz ag x, o.op = .load sz ag x) (h : ap1 cb H G o tm g = some (v, k)) (X : Heap) :
   quiet1 cb o tm (H ++ X) = some (v, H ++ X) /\ k = none := by
 unfold ap1 at h
 unfold quiet1
 split at h
 . rename_i hw
   rw [if_pos hw]
   split at h
   . rename_i u hv
     cases h
     rw [aval_app X hv]
     exact ⟨rfl, rfl⟩
   . exfalso
     rcases hs with hs | ⟨sz, ag, x, ho⟩
     . revert hs h
       cases o.op <;> intro hs h <;> first | (cases hs; done) | (cases h; done)
     . rw [ho] at h
       cases h
 . rename_i hw
   rw [if_neg hw]
   cases h
   exact ⟨rfl, rfl⟩
theorem draw_pre (hcb : CbOk P cb) (hos : mapO (cOper P ops) ops.toList = some os) (hD : DrawOk ops os s fs) (hX : FixOk ops os s fs lx sx) (hsn : s <= ops.size) {fr : Fr} {tm' : List AV} {ws : List (Option Nat × AV)} {ks : List (Option AObj)}
   (hwl : ws.length = (os.take s).length) (hkl : ks.length = (os.take s).length) (htm : tm' = putM ws (fun _ => true) 0 fr.tm)
   (hws : ∀ (i : Nat) (o : AOper), (os.take s)[i]? = some o -> ∃ v k, ws[i]? = some (o.dst, v) /\ ks[i]? = some k /\ ap1 cb H (H ++ toks (ks.take i)) o (putM ws (fun j => decide (j < i)) 0 fr.tm) (H.length + (toks (ks.take i)).length) = some (v, k))
   (hfv : fs ≠ [] -> floatV (lx.map (·.ev tm')) (sx.map (·.ev tm')) = true)
   (h : aregion cb rd (os.drop s) { fr with tm := tm' } (H ++ toks ks) = some r) : ∀ (fuel : Nat) (listed : Array Bool) (V : View) (W : World) (a : Act),
   listed.size = ops.size -> cnt (listed.toList.take s) + (ops.size - s) <= fuel -> Closed ops (fun i => listed.getD i false) -> (∀ i, s <= i -> listed.getD i false = false) -> RdR V rd ro →
   FrR V { fr with tm := putM ws (fun i => listed.getD i false) 0 fr.tm } a -> WR P w0 V (H ++ tokM ks (fun i => listed.getD i false) 0) W →
   (∀ id, (H ++ tokM ks (fun i => listed.getD i false) 0)[id]? = some .dead -> H.length <= id -> V.loc id = none) →
   (∀ V' a' W' ex, Grow w0 V V' -> WR P w0 V' r.2.2 W' -> FrR V' r.2.1 a' -> ExR V' r.1 ex -> Q ex a' W') →
   wpAnyIn (Fk ro) 0 P .any ops Q fuel listed a W := by
 obtain ⟨hlen, hmap⟩ := mapO_some hos
 simp only [Array.length_toList] at hlen
 have hsl : (os.take s).length = s := by rw [List.length_take]; omega
 have tk : ∀ i, i < s -> (os.take s)[i]? = os[i]? := fun i hi => by rw [List.getElem?_take, if_pos hi]
 have wdst : ∀ (j t : Nat) (v : AV), ws[j]? = some (some t, v) -> j < s /\ ∃ y, os[j]? = some y /\ y.dst = some t := by
   intro j t v hj
   have hjs : j < s := by have := (List.getElem?_eq_some_iff.1 hj).1; omega
   have : j < os.length := by omega
   obtain ⟨u, _, hu, _⟩ := hws j os[j] (by rw [tk j hjs]; simp [this])
   rw [hj] at hu
   simp only [Option.some.injEq, Prod.mk.injEq] at hu
   exact ⟨hjs, os[j], by simp [this], hu.1.symm⟩
 intro fuel
 induction fuel with
 | zero =>
   intro listed V W a hs hcn hcl hun hrd hF hW hdl hQ
   have hcn' : s = ops.size /\ cnt (listed.toList.take s) = 0 := by omega
   have hall : ∀ i, i < s -> listed.getD i false = true := by
     intro i hi
     have hil : i < listed.size := by omega
     have := cnt_zero _ hcn'.2 i listed[i] (by rw [List.getElem?_take, if_pos hi]; simp [hil])
     simp [hil, this]
   have e : putM ws (fun i => listed.getD i false) 0 fr.tm = tm' := by
     rw [htm]
     apply List.ext_getElem?
     intro t
     exact putM_congr ws _ _ 0 _ _ rfl rfl (fun j v hj => by
       obtain ⟨hjs, _⟩ := wdst j t v hj
       simpa using hall j hjs)
   rw [e] at hF
   have e2 : tokM ks (fun i => listed.getD i false) 0 = toks ks := by
     rw [<- tokM_all ks 0]
     exact tokM_congr ks _ _ 0 (fun j sz hj => by
       have hjs : j < s := by have := (List.getElem?_eq_some_iff.1 hj).1; omega
       simpa using hall j hjs)
   rw [e2] at hW
   exact draw_tail hcb hos hD 0 s listed V W a _ _ hs (fun i hi => by rw [hall i (by omega)]; simp; omega) (Nat.le_refl _) hsn (by omega) hrd hF hW h hQ
 | succ fuel ih =>
   intro listed V W a hs hcn hcl hun hrd hF hW hdl hQ
   by_cases hall : ∀ i, i < s -> listed.getD i false = true
   . have e : putM ws (fun i => listed.getD i false) 0 fr.tm = tm' := by
       rw [htm]
       apply List.ext_getElem?
       intro t
       exact putM_congr ws _ _ 0 _ _ rfl rfl (fun j v hj => by
         obtain ⟨hjs, _⟩ := wdst j t v hj
         simpa using hall j hjs)
     rw [e] at hF
     have e2 : tokM ks (fun i => listed.getD i false) 0 = toks ks := by
       rw [<- tokM_all ks 0]
       exact tokM_congr ks _ _ 0 (fun j sz hj => by
         have hjs : j < s := by have := (List.getElem?_eq_some_iff.1 hj).1; omega
         simpa using hall j hjs)
     rw [e2] at hW
     refine draw_tail hcb hos hD (fuel + 1) s listed V W a _ _ hs (fun i hi => ?_) (Nat.le_refl _) hsn (by omega) hrd hF hW h hQ
     by_cases his : i < s
     . rw [hall i his]; simp [his]
     . rw [hun i (by omega)]; simp; omega
   . by_cases hstill : ∀ m, m < s -> listed.getD m false = false -> ∃ y, os[m]? = some y /\ (y.op.still = true ∨ m ∈ fs)
     . -- what is left is still
       have hkn : ∀ m y, os[m]? = some y -> (y.op.still = true ∨ m ∈ fs) -> m < s -> ∃ v, ws[m]? = some (y.dst, v) /\ ks[m]? = some none /\ quiet1 cb y (putM ws (fun j => decide (j < m)) 0 fr.tm) (H ++ toks ks) = some (v, H ++ toks ks) := by
         intro m y hy hys hm
         obtain ⟨v, k, k1, k2, k3⟩ := hws m y (by rw [tk m hm]; exact hy)
         obtain ⟨e1, e2⟩ := ap1_fl (hys.imp id (fun h1 => by
           obtain ⟨z, sz, ag, q, hz, hzo, _⟩ := hX.ld m h1
           rw [hy] at hz
           cases hz
           exact ⟨sz, ag, _, hzo⟩)) k3 (toks ks)
         subst e2
         exact ⟨v, k1, k2, e1⟩
       have e2 : tokM ks (fun i => listed.getD i false) 0 = toks ks := by
         rw [<- tokM_all ks 0]
         exact tokM_congr ks _ _ 0 (fun j sz hj => by
           have hjs : j < s := by have := (List.getElem?_eq_some_iff.1 hj).1; omega
           simp only [Nat.zero_add]
           cases hb : listed.getD j false with
           | true => rfl
           | false =>
             obtain ⟨y, hy, hys⟩ := hstill j hjs hb
             obtain ⟨_, _, h2, _⟩ := hkn j y hy hys hjs
             rw [h2] at hj
             cases hj)
       rw [e2] at hW
       rw [htm] at h hfv
       refine draw_float hcb hos hD hX (draw_tail hcb hos hD) (fuel + 1) 0 ws listed V W a _ (by omega) (by omega) (fun j u hj => ?_) hs (by simpa using hcn) hcl (fun i hi hin => by rw [hun i hi]; simp; omega) (fun m hm hmu => ?_) hfv hrd hF hW h hQ
       . have hjs : j < s := by have := (List.getElem?_eq_some_iff.1 hj).1; omega
         have hjo : j < os.length := by omega
         obtain ⟨v, _, k1, _⟩ := hws j os[j] (by rw [tk j hjs]; simp [hjo])
         rw [hj] at k1
         cases k1
         exact ⟨os[j], by simp [hjo], rfl⟩
       . obtain ⟨y, hy, hys⟩ := hstill m hm hmu
         obtain ⟨v, k1, _, k3⟩ := hkn m y hy hys hm
         exact ⟨y, v, hy, hys, k1, k3⟩
     have hex : ∃ m, m < s /\ listed.getD m false = false /\ ¬ ∃ y, os[m]? = some y /\ (y.op.still = true ∨ m ∈ fs) := by
       apply Classical.byContradiction
       intro hno
       exact hstill fun i hi hb => Classical.byContradiction fun hc => hno ⟨i, hi, hb, hc⟩
     obtain ⟨m, hm, hmu, hms⟩ := hex
     refine ⟨fun h0 => ?_, fun i hi => ?_⟩
     . have := ready_some hs hD.back h0 m (by omega)
       rw [hmu] at this
       cases this
     . obtain ⟨o, ho, hu, hr⟩ := (ready_iff hs).1 hi
       have hin : i < ops.size := (Array.getElem?_eq_some_iff.1 ho).1
       have hrd' : ∀ j, Ord ops j i -> listed.getD j false = true := fun j hj => hj.ready hcl (fun o' e ho' he hb => by rw [ho] at ho'; cases ho'; exact hr e he hb)
       have his : i < s := by
         apply Nat.lt_of_not_le
         intro hsi
         rcases hD.pair m i (by omega) hin with h1 | ⟨x, _, hx, _, _, h1⟩
         . have := hrd' m h1
           rw [hmu] at this
           cases this
         . rcases h1 with h1 | h1
           . omega
           . exact hms ⟨x, hx, h1.2.1⟩
       obtain ⟨ao, hc, hao⟩ := hmap i o (by simpa using ho)
       obtain ⟨v, k, hwv, hkv, hap⟩ := hws i ao (by rw [tk i his]; exact hao)
       have later : ∀ j, i < j -> Ord ops i j -> listed.getD j false = false := by
         intro j hj hord
         cases hb : listed.getD j false with
         | false => rfl
         | true =>
           have := hord.listed hcl (L := fun i => listed.getD i false) hb
           simp only [hu] at this
           cases this
       have hag : ap1 cb H (H ++ toks (ks.take i)) ao (putM ws (fun i => listed.getD i false) 0 fr.tm) (H.length + (toks (ks.take i)).length) = some (v, k) := by
         rw [<- hap]
         refine ap1_congr fun t ht => putM_congr ws _ _ 0 _ _ rfl rfl (fun j u hj => ?_)
         obtain ⟨hjs, y, hy, hyd⟩ := wdst j t u hj
         simp only [Nat.zero_add]
         rcases Nat.lt_trichotomy j i with hji | hji | hji
         . rw [decide_eq_true hji]
           rcases hD.pair j i hji hin with h1 | ⟨x, z, hx, hz, hxz, _⟩
           . exact hrd' j h1
           . rw [hy] at hx; rw [hao] at hz
             cases hx; cases hz
             exact absurd ht ((apartA_spec hxz).1 t hyd)
         . subst hji
           rw [hu]; simp
         . rw [decide_eq_false (by omega)]
           rcases hD.pair i j hji (by omega) with h1 | ⟨x, z, hx, hz, hxz, _⟩
           . exact later j hji h1
           . rw [hao] at hx; rw [hy] at hz
             cases hx; cases hz
             exact absurd ht ((apartA_spec hxz).2.2 t hyd)
       have hput : putD (putM ws (fun i => listed.getD i false) 0 fr.tm) ao.dst v = putM ws (fun j => (listed.setIfInBounds i true).getD j false) 0 fr.tm := by
         apply List.ext_getElem?
         intro t
         by_cases hdt : ao.dst = some t
         . by_cases htl : t < fr.tm.length
           . rw [hdt, putD_eq (by rw [putM_length]; exact htl)]
             refine (putM_last ws _ 0 i fr.tm (by rw [hwv, hdt]) (by rw [set_getD (by omega)]; simp) htl (fun j u hj hw => ?_)).symm
             obtain ⟨hjs, y, hy, hyd⟩ := wdst j t u hw
             simp only [Nat.zero_add]
             rw [set_getD (by omega)]
             have hne : ¬ i = j := by omega
             simp only [hne, decide_false, Bool.false_or]
             rcases hD.pair i j hj (by omega) with h1 | ⟨x, z, hx, hz, hxz, _⟩
             . exact later j hj h1
             . rw [hao] at hx; rw [hy] at hz
               cases hx; cases hz
               exact absurd hyd ((apartA_spec hxz).2.1 t hdt)
           . rw [List.getElem?_eq_none (by rw [putD_length, putM_length]; omega), List.getElem?_eq_none (by rw [putM_length]; omega)]
         . rw [putD_ne hdt]
           refine putM_congr ws _ _ 0 _ _ rfl rfl (fun j u hj => ?_)
           obtain ⟨hjs, y, hy, hyd⟩ := wdst j t u hj
           simp only [Nat.zero_add]
           rw [set_getD (by omega)]
           have hne : ¬ i = j := by
             rintro rfl
             rw [hao] at hy
             cases hy
             exact hdt hyd
           simp [hne]
       have hheap : heapK (H ++ tokM ks (fun i => listed.getD i false) 0) (H.length + (toks (ks.take i)).length) k = H ++ tokM ks (fun j => (listed.setIfInBounds i true).getD j false) 0 := by
         cases k with
         | none =>
           simp only [heapK]
           congr 1
           refine tokM_congr ks _ _ 0 (fun j sz hj => ?_)
           simp only [Nat.zero_add]
           rw [set_getD (by omega)]
           have hne : ¬ i = j := by rintro rfl; rw [hkv] at hj; cases hj
           simp [hne]
         | some sz =>
           simp only [heapK]
           rw [List.set_append_right _ _ (by omega)]
           congr 1
           rw [tokM_set ks (fun i => listed.getD i false) (fun j => (listed.setIfInBounds i true).getD j false) 0 i hkv (by simp only [Nat.zero_add]; rw [set_getD (by omega)]; simp) (fun j hj => by
             rw [set_getD (by omega)]
             have hne : ¬ i = j := by omega
             simp [hne])]
           congr 1
           omega
       have hdead : ∀ sz, k = some sz -> (H ++ tokM ks (fun i => listed.getD i false) 0)[H.length + (toks (ks.take i)).length]? = some .dead /\ V.loc (H.length + (toks (ks.take i)).length) = none := by
         rintro sz rfl
         have h1 : (H ++ tokM ks (fun i => listed.getD i false) 0)[H.length + (toks (ks.take i)).length]? = some .dead := by
           rw [List.getElem?_append_right (by omega), Nat.add_sub_cancel_left]
           exact tokM_get ks _ 0 i hkv (by simpa using hu)
         exact ⟨h1, hdl _ h1 (by omega)⟩
       unfold wpOpIn
       rw [ho]
       have hvis : ∀ id o, (H ++ toks (ks.take i))[id]? = some o -> (∃ l, V.loc id = some l) -> (H ++ tokM ks (fun i => listed.getD i false) 0)[id]? = some o := by
         intro id o hid hl
         by_cases hlt : id < H.length
         . rw [List.getElem?_append_left hlt] at hid ⊢
           exact hid
         . rw [List.getElem?_append_right (by omega)] at hid ⊢
           rcases tokM_or ks (fun i => listed.getD i false) 0 i (id - H.length) hid with h1 | h1
           . exact h1
           . have := hdl id (by rw [List.getElem?_append_right (by omega)]; exact h1) (by omega)
             obtain ⟨l, hl⟩ := hl
             rw [this] at hl
             cases hl
       refine pre_ok hcb hvis hc hF hW hag hdead (fun V' a' W' g1 g2 g5 g3 => ?_)
       simp only [hput] at g3
       have hdl' : ∀ id, (H ++ tokM ks (fun j => (listed.setIfInBounds i true).getD j false) 0)[id]? = some .dead -> H.length <= id -> V'.loc id = none := by
         intro id hid hge
         rw [<- hheap] at hid
         cases k with
         | none =>
           rw [g5 id (.inl rfl)]
           exact hdl id hid hge
         | some sz =>
           simp only [heapK, List.getElem?_set] at hid
           split at hid
           . split at hid
             . cases hid; exact absurd (ap1_live hap) (by simp [AObj.live])
             . cases hid
           . rename_i hne
             rw [g5 id (.inr (fun e => hne e.symm))]
             exact hdl id hid hge
       rw [hheap] at g2
       refine ih _ V' W' a' (by simpa using hs) ?_ ?_ (fun j hj => ?_) (hrd.mono g1.le) g3 g2 hdl' (fun V'' a'' W'' ex k1 => hQ V'' a'' W'' ex (g1.trans k1))
       . have : cnt ((listed.toList.take s).set i true) + 1 = cnt (listed.toList.take s) := cnt_set _ i (by
           have hil : i < listed.size := by omega
           rw [List.getElem?_take, if_pos his]
           simp [hil] at hu ⊢
           exact hu)
         rw [Array.toList_setIfInBounds, List.take_set]
         omega
       . intro j o' e ho' hj he hb
         simp only [set_getD (show i < listed.size by omega)] at hj ⊢
         rw [Bool.or_eq_true] at hj ⊢
         rcases hj with hj | hj
         . simp at hj
           subst hj
           rw [ho] at ho'
           cases ho'
           exact .inr (hr e he hb)
         . exact .inr (hcl j o' e ho' hj he hb)
       . rw [set_getD (by omega), hun j hj]
         simp; omega
theorem drawn_any (hcb : CbOk P cb) {id : Nat} {pre tail : List AOper} {fr : Fr} {tm' : List AV} (hc : cRegion0 P ops true = some (.drawn pre tail)) (hrd : RdR V rd ro) (hF : FrR V fr a) (hW : WR P w0 V H W)
   {e' : List AObj} (h0 : apre cb H pre fr.tm [] = some (tm', e')) (h : aregion cb rd tail { fr with tm := tm' } (H ++ e') = some r)
   (hQ : ∀ V' a' W' ex, Grow w0 V V' -> WR P w0 V' r.2.2 W' -> FrR V' r.2.1 a' -> ExR V' r.1 ex -> Q ex a' W') : P.follows .mixedOrders = true /\ wpAnyIn (Fk ro) 0 P .any ops Q ops.size (Array.replicate ops.size false) a { W with drawn := W.drawn + 1 } := by
 unfold cRegion0 at hc
 split at hc
 . cases hc
 . rename_i os hos
   simp only [Bool.not_true, Bool.false_eq_true, if_false] at hc
   have gen : ∀ (s : Nat) (fs : List Nat) (lx sx : List X), s <= ops.size -> drawOk ops os (befL ops.toList []) s fs = true -> FixOk ops os s fs lx sx -> P.follows .mixedOrders = true -> pre = os.take s →
       (fs ≠ [] -> floatV (lx.map (·.ev tm')) (sx.map (·.ev tm')) = true) -> aregion cb rd (os.drop s) { fr with tm := tm' } (H ++ e') = some r -> P.follows .mixedOrders = true /\ wpAnyIn (Fk ro) 0 P .any ops Q ops.size (Array.replicate ops.size false) a { W with drawn := W.drawn + 1 } := by
     rintro s fs lx sx hsn hd hX hm rfl hfv h
     have hD := drawOk_sound hd
     obtain ⟨ws, ks, h1, h1', h2, h2', h3⟩ := apre_steps _ _ _ _ _ h0
     simp only [List.nil_append] at h2'
     subst h2'
     have hz : ∀ j, (Array.replicate ops.size false).getD j false = false := fun j => by
       simp [Array.getElem?_replicate]
       split <;> rfl
     refine ⟨hm, draw_pre hcb hos hD hX (hsn) h1 h1' h2 (fun i o hi => by simpa using h3 i o hi) hfv h ops.size _ V _ a (by simp) ?_ ?_ (fun i _ => hz i) hrd ?_ ?_ ?_ hQ⟩
     . have := cnt_le ((Array.replicate ops.size false).toList.take s)
       simp only [List.length_take, Array.length_toList, Array.size_replicate] at this
       omega
     . intro j o e ho hj he hb
       simp only [hz] at hj
       cases hj
     . rw [putM_none _ _ _ _ hz]
       exact hF
     . rw [tokM_congr ks _ (fun _ => false) 0 (fun j sz _ => hz _), tokM_none]
       exact hW.drew.deads _
     . intro id _ hge
       exact hW.fresh id hge
   have hfa : firstAct os <= ops.size := by
     have h1 := firstAct_le os
     have h2 := (mapO_some hos).1
     simp only [Array.length_toList] at h2
     omega
   have no : ∀ s, FixOk ops os s [] [] [] := fun s => ⟨fun _ h => by simp at h, fun _ h => by simp at h, fun _ h => by simp at h⟩
   split at hc
   . rename_i hchk
     cases hc
     simp only [Bool.and_eq_true] at hchk
     exact gen _ [] [] [] (firstTail_le _ _) hchk.1.2 (no _) hchk.1.1 rfl (fun h => absurd rfl h) h
   . split at hc
     . rename_i hchk
       cases hc
       simp only [Bool.and_eq_true] at hchk
       exact gen _ [] [] [] hfa hchk.1.2 (no _) hchk.1.1 rfl (fun h => absurd rfl h) h
     . split at hc
       . rename_i hchk
         cases hc
         simp only [Bool.and_eq_true] at hchk
         rw [aregion] at h
         rw [if_pos (show wantedA _ none = true from rfl)] at h
         simp only [aval] at h
         split at h
         . rename_i v hv
           split at hv
           . rename_i hfv
             cases hv
             exact gen _ _ _ _ hfa hchk.1.1.2 (fixOk_sound (.inl rfl) hchk.2) hchk.1.1.1 rfl (fun _ => hfv) h
           . cases hv
         . simp [aact] at h
       . split at hc
         . rename_i hchk
           cases hc
           simp only [Bool.and_eq_true] at hchk
           rw [aregion] at h
           rw [if_pos (show wantedA _ none = true from rfl)] at h
           simp only [aval] at h
           split at h
           . rename_i v hv
             split at hv
             . rename_i hfv
               cases hv
               exact gen _ _ _ _ hfa hchk.1.1.2 (fixOk_sound (.inr rfl) hchk.2) hchk.1.1.1 rfl (fun _ => hfv) h
             . cases hv
           . simp [aact] at h
         . cases hc
end
end Go.Am
