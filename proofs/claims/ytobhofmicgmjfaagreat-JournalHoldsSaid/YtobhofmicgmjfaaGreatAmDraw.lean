/- REGIONS THAT DRAW THEIR ORDER: in every order that the machine may take, what the interpreter's one order gives. No condition. -/
import Derived.Test.YtobhofmicgmjfaaGreatAmCode
set_option linter.all false
namespace Go.Am
open Go Go.RowKit
set_option linter.unusedSectionVars false
variable [Thaw]
variable {P : Program} {w0 : World} {V : View} {H : Heap} {W : World} {tm : List AV} {a : Act}
inductive Ord (ops : Array Oper) : Nat -> Nat -> Prop
 | edge {j : Nat} {o : Oper} {e : Edge} (ho : ops[j]? = some o) (he : e ∈ o.after) (hb : Region.binds .any e = true) : Ord ops e.on j
 | trans {i j : Nat} {o : Oper} {e : Edge} (ho : ops[j]? = some o) (he : e ∈ o.after) (hb : Region.binds .any e = true) (h : Ord ops i e.on) : Ord ops i j
theorem forceN_eq {α : Type} (n : Nat) (k : Nat -> α) : forceN n k = k n := by cases n <;> rfl
theorem befOne_sound {ops : Array Oper} {acc : List Nat} {j : Nat} {o : Oper} (ho : ops[j]? = some o) (hacc : ∀ k i, (acc.getD k 0).testBit i = true -> Ord ops i k) :
   ∀ (l : List Edge) (s : Nat), (∀ e ∈ l, e ∈ o.after) -> (∀ i, s.testBit i = true -> Ord ops i j) -> ∀ i, (befOne acc l s).testBit i = true -> Ord ops i j := by
 intro l
 induction l with
 | nil => intro s _ hs i hi; exact hs i hi
 | cons e l ih =>
   intro s hm hs i hi
   refine ih _ (fun e' he' => hm e' (List.mem_cons_of_mem _ he')) ?_ i hi
   intro k hk
   split at hk
   . rename_i hb
     simp only [Nat.testBit_or, Bool.or_eq_true, Nat.testBit_two_pow, decide_eq_true_eq] at hk
     rcases hk with (hk | hk) | hk
     . exact hs k hk
     . subst hk; exact .edge ho (hm e List.mem_cons_self) hb
     . exact .trans ho (hm e List.mem_cons_self) hb (hacc _ _ hk)
   . exact hs k hk
theorem befL_sound {ops : Array Oper} : ∀ (l : List Oper) (acc : List Nat), (∀ k, l[k]? = ops[acc.length + k]?) -> (∀ k i, (acc.getD k 0).testBit i = true -> Ord ops i k) →
   ∀ k i, ((befL l acc).getD k 0).testBit i = true -> Ord ops i k := by
 intro l
 induction l with
 | nil => intro acc _ h; exact h
 | cons o l ih =>
   intro acc hl h
   simp only [befL, forceN_eq]
   have h0 : ops[acc.length]? = some o := by simpa using (hl 0).symm
   refine ih _ (fun k => by have := hl (k + 1); simpa [Nat.add_assoc, Nat.add_comm 1 k] using this) ?_
   intro k i hi
   by_cases hk : k < acc.length
   . rw [List.getD_eq_getElem?_getD, List.getElem?_append_left hk, <- List.getD_eq_getElem?_getD] at hi
     exact h k i hi
   . by_cases hk2 : k = acc.length
     . subst hk2
       rw [List.getD_eq_getElem?_getD, List.getElem?_append_right (Nat.le_refl _)] at hi
       simp at hi
       exact befOne_sound h0 h _ 0 (fun e he => by simpa using he) (fun i hi => by simp at hi) i hi
     . rw [List.getD_eq_getElem?_getD, List.getElem?_eq_none (by simp; omega)] at hi
       simp at hi
def Closed (ops : Array Oper) (L : Nat -> Bool) : Prop := ∀ (j : Nat) (o : Oper) (e : Edge), ops[j]? = some o -> L j = true -> e ∈ o.after -> Region.binds .any e = true -> L e.on = true
theorem Ord.listed {ops : Array Oper} {L : Nat -> Bool} (hL : Closed ops L) {i j : Nat} (h : Ord ops i j) : L j = true -> L i = true := by
 induction h with
 | edge ho he hb => exact fun hj => hL _ _ _ ho hj he hb
 | trans ho he hb _ ih => exact fun hj => ih (hL _ _ _ ho hj he hb)
theorem Ord.ready {ops : Array Oper} {L : Nat -> Bool} (hL : Closed ops L) {i j : Nat} (h : Ord ops i j) (hr : ∀ (o : Oper) (e : Edge), ops[j]? = some o -> e ∈ o.after -> Region.binds .any e = true -> L e.on = true) : L i = true := by
 cases h with
 | edge ho he hb => exact hr _ _ ho he hb
 | trans ho he hb h => exact h.listed hL (hr _ _ ho he hb)
def putM : List (Option Nat × AV) -> (Nat -> Bool) -> Nat -> List AV -> List AV
 | [], _, _, tm => tm
 | (d, v) :: r, L, k, tm => putM r L (k + 1) (if L k then putD tm d v else tm)
theorem putD_length (tm : List AV) (d : Option Nat) (v : AV) : (putD tm d v).length = tm.length := by cases d <;> simp [putD]
theorem putM_length : ∀ (ws : List (Option Nat × AV)) (L : Nat -> Bool) (k : Nat) (tm : List AV), (putM ws L k tm).length = tm.length
 | [], _, _, _ => rfl
 | (d, v) :: r, L, k, tm => by
   rw [putM, putM_length r]
   split
   . exact putD_length _ _ _
   . rfl
theorem putD_ne {tm : List AV} {d : Option Nat} {v : AV} {t : Nat} (h : d ≠ some t) : (putD tm d v)[t]? = tm[t]? := by
 cases d with
 | none => rfl
 | some d => simp only [putD, List.getElem?_set]; rw [if_neg (fun e => h (by rw [e]))]
theorem putD_eq {tm : List AV} {v : AV} {t : Nat} (h : t < tm.length) : (putD tm (some t) v)[t]? = some v := by simp [putD, h]
theorem putM_congr {t : Nat} : ∀ (ws : List (Option Nat × AV)) (L L' : Nat -> Bool) (k : Nat) (tm tm' : List AV), tm.length = tm'.length -> tm[t]? = tm'[t]? →
   (∀ j v, ws[j]? = some (some t, v) -> L (k + j) = L' (k + j)) -> (putM ws L k tm)[t]? = (putM ws L' k tm')[t]?
 | [], _, _, _, _, _, _, h, _ => h
 | (d, v) :: r, L, L', k, tm, tm', hl, h, hw => by
   rw [putM, putM]
   refine putM_congr r L L' (k + 1) _ _ ?_ ?_ (fun j v hj => by have := hw (j + 1) v (by simpa using hj); simpa [Nat.add_assoc, Nat.add_comm 1 j] using this)
   . split <;> split <;> simp [putD_length, hl]
   . by_cases hd : d = some t
     . subst hd
       have := hw 0 v rfl
       simp only [Nat.add_zero] at this
       rw [this]
       split
       . by_cases ht : t < tm.length
         . rw [putD_eq ht, putD_eq (hl ▸ ht)]
         . rw [List.getElem?_eq_none (by rw [putD_length]; omega), List.getElem?_eq_none (by rw [putD_length]; omega)]
       . exact h
     . split <;> split <;> simp [putD_ne hd, h]
theorem putM_last {t : Nat} {v : AV} : ∀ (ws : List (Option Nat × AV)) (L : Nat -> Bool) (k i : Nat) (tm : List AV), ws[i]? = some (some t, v) -> L (k + i) = true -> t < tm.length →
   (∀ j v, i < j -> ws[j]? = some (some t, v) -> L (k + j) = false) -> (putM ws L k tm)[t]? = some v
 | [], _, _, _, _, h, _, _, _ => by simp at h
 | (d, u) :: r, L, k, 0, tm, h, hL, ht, hl => by
   simp at h
   obtain ⟨rfl, rfl⟩ := h
   rw [putM]
   have e : (putM r L (k + 1) (if L k = true then putD tm (some t) u else tm))[t]? = (putM r (fun _ => false) (k + 1) (if L k = true then putD tm (some t) u else tm))[t]? :=
     putM_congr r _ _ _ _ _ rfl rfl (fun j v hj => by have := hl (j + 1) v (by omega) (by simpa using hj); simpa [Nat.add_assoc, Nat.add_comm 1 j] using this)
   rw [e]
   have none : ∀ (ws : List (Option Nat × AV)) (k : Nat) (tm : List AV), putM ws (fun _ => false) k tm = tm := by
     intro ws
     induction ws with
     | nil => intros; rfl
     | cons w ws ih => intro k tm; rw [putM]; exact ih _ _
   rw [none]
   simp only [Nat.add_zero] at hL
   rw [if_pos hL]
   exact putD_eq ht
 | (d, u) :: r, L, k, i + 1, tm, h, hL, ht, hl => by
   rw [putM]
   refine putM_last r L (k + 1) i _ (by simpa using h) (by simpa [Nat.add_assoc, Nat.add_comm 1 i] using hL) ?_ (fun j v hj hw => by have := hl (j + 1) v (by omega) (by simpa using hw); simpa [Nat.add_assoc, Nat.add_comm 1 j] using this)
   split
   . rw [putD_length]; exact ht
   . exact ht
theorem putM_none : ∀ (ws : List (Option Nat × AV)) (L : Nat -> Bool) (k : Nat) (tm : List AV), (∀ j, L j = false) -> putM ws L k tm = tm
 | [], _, _, _, _ => rfl
 | (d, v) :: r, L, k, tm, h => by
   rw [putM, h k]
   exact putM_none r L (k + 1) tm h
theorem putM_shift : ∀ (ws : List (Option Nat × AV)) (L : Nat -> Bool) (k : Nat) (tm : List AV), putM ws L (k + 1) tm = putM ws (fun j => L (j + 1)) k tm
 | [], _, _, _ => rfl
 | (d, v) :: r, L, k, tm => by
   rw [putM, putM]
   exact putM_shift r L (k + 1) _
def tokM : List (Option AObj) -> (Nat -> Bool) -> Nat -> Heap
 | [], _, _ => []
 | none :: r, L, k => tokM r L (k + 1)
 | some sz :: r, L, k => (if L k then sz else .dead) :: tokM r L (k + 1)
def toks (ks : List (Option AObj)) : List AObj := ks.filterMap id
theorem tokM_congr : ∀ (ks : List (Option AObj)) (L L' : Nat -> Bool) (k : Nat), (∀ j sz, ks[j]? = some (some sz) -> L (k + j) = L' (k + j)) -> tokM ks L k = tokM ks L' k
 | [], _, _, _, _ => rfl
 | none :: r, L, L', k, h => by
   rw [tokM, tokM]
   exact tokM_congr r L L' (k + 1) (fun j sz hj => by have := h (j + 1) sz (by simpa using hj); simpa [Nat.add_assoc, Nat.add_comm 1 j] using this)
 | some s :: r, L, L', k, h => by
   rw [tokM, tokM]
   have h0 := h 0 s rfl
   simp only [Nat.add_zero] at h0
   rw [h0, tokM_congr r L L' (k + 1) (fun j sz hj => by have := h (j + 1) sz (by simpa using hj); simpa [Nat.add_assoc, Nat.add_comm 1 j] using this)]
theorem tokM_all : ∀ (ks : List (Option AObj)) (k : Nat), tokM ks (fun _ => true) k = toks ks
 | [], _ => rfl
 | none :: r, k => by rw [tokM, tokM_all r]; rfl
 | some s :: r, k => by rw [tokM, tokM_all r]; rfl
theorem tokM_none : ∀ (ks : List (Option AObj)) (k : Nat), tokM ks (fun _ => false) k = List.replicate (toks ks).length .dead
 | [], _ => rfl
 | none :: r, k => by rw [tokM, tokM_none r]; rfl
 | some s :: r, k => by rw [tokM, tokM_none r]; rfl
theorem tokM_get {sz : AObj} : ∀ (ks : List (Option AObj)) (L : Nat -> Bool) (k i : Nat), ks[i]? = some (some sz) -> L (k + i) = false -> (tokM ks L k)[(toks (ks.take i)).length]? = some .dead
 | [], _, _, _, h, _ => by simp at h
 | none :: r, L, k, 0, h, _ => by simp at h
 | some s :: r, L, k, 0, h, hL => by
   simp only [Nat.add_zero] at hL
   rw [tokM, hL]
   rfl
 | none :: r, L, k, i + 1, h, hL => by
   rw [tokM]
   exact tokM_get r L (k + 1) i (by simpa using h) (by simpa [Nat.add_assoc, Nat.add_comm 1 i] using hL)
 | some s :: r, L, k, i + 1, h, hL => by
   rw [tokM]
   have := tokM_get r L (k + 1) i (by simpa using h) (by simpa [Nat.add_assoc, Nat.add_comm 1 i] using hL)
   simpa [toks] using this
theorem tokM_set {sz : AObj} : ∀ (ks : List (Option AObj)) (L L' : Nat -> Bool) (k i : Nat), ks[i]? = some (some sz) -> L' (k + i) = true -> (∀ j, j ≠ k + i -> L' j = L j) -> tokM ks L' k = (tokM ks L k).set (toks (ks.take i)).length sz
 | [], _, _, _, _, h, _, _ => by simp at h
 | none :: r, L, L', k, 0, h, _, _ => by simp at h
 | some s :: r, L, L', k, 0, h, h1, h2 => by
   simp at h
   subst h
   simp only [Nat.add_zero] at h1
   rw [tokM, tokM, h1]
   have : tokM r L' (k + 1) = tokM r L (k + 1) := tokM_congr r L' L (k + 1) (fun j _ _ => h2 _ (by omega))
   rw [this]
   rfl
 | none :: r, L, L', k, i + 1, h, h1, h2 => by
   rw [tokM, tokM]
   exact tokM_set r L L' (k + 1) i (by simpa using h) (by simpa [Nat.add_assoc, Nat.add_comm 1 i] using h1) (fun j hj => h2 j (by omega))
 | some s :: r, L, L', k, i + 1, h, h1, h2 => by
   rw [tokM, tokM, h2 k (by omega)]
   have := tokM_set r L L' (k + 1) i (by simpa using h) (by simpa [Nat.add_assoc, Nat.add_comm 1 i] using h1) (fun j hj => h2 j (by omega))
   rw [this]
   simp [toks]
theorem tokM_or {o : AObj} : ∀ (ks : List (Option AObj)) (L : Nat -> Bool) (k i m : Nat), (toks (ks.take i))[m]? = some o -> (tokM ks L k)[m]? = some o ∨ (tokM ks L k)[m]? = some .dead
 | [], _, _, _, _, h => by simp [toks] at h
 | _ :: _, _, _, 0, _, h => by simp [toks] at h
 | none :: r, L, k, i + 1, m, h => by
   rw [tokM]
   exact tokM_or r L (k + 1) i m (by simpa [toks] using h)
 | some s :: r, L, k, i + 1, 0, h => by
   have : s = o := by simpa [toks] using h
   subst this
   rw [tokM]
   cases L k
   . exact .inr rfl
   . exact .inl rfl
 | some s :: r, L, k, i + 1, m + 1, h => by
   rw [tokM]
   have := tokM_or r L (k + 1) i m (by simpa [toks] using h)
   simpa using this
theorem apre_steps {cb : CB} : ∀ (pre : List AOper) (tm tm' : List AV) (e e' : List AObj), apre cb H pre tm e = some (tm', e') →
   ∃ (ws : List (Option Nat × AV)) (ks : List (Option AObj)), ws.length = pre.length /\ ks.length = pre.length /\ tm' = putM ws (fun _ => true) 0 tm /\ e' = e ++ toks ks ∧
     ∀ (i : Nat) (o : AOper), pre[i]? = some o -> ∃ v k, ws[i]? = some (o.dst, v) /\ ks[i]? = some k /\ ap1 cb H (H ++ (e ++ toks (ks.take i))) o (putM ws (fun j => decide (j < i)) 0 tm) (H.length + (e.length + (toks (ks.take i)).length)) = some (v, k)
 | [], tm, tm', e, e', h => by cases h; exact ⟨[], [], rfl, rfl, rfl, by simp [toks], fun i o hi => by simp at hi⟩
 | o :: pre, tm, tm', e, e', h => by
   rw [apre] at h
   split at h
   . rename_i v k hv
     obtain ⟨ws, ks, h1, h1', h2, h2', h3⟩ := apre_steps pre _ tm' _ e' h
     refine ⟨(o.dst, v) :: ws, k :: ks, by simp [h1], by simp [h1'], ?_, ?_, fun i o' hi => ?_⟩
     . rw [putM, putM_shift]
       exact h2
     . rw [h2']
       cases k <;> simp [toks]
     . cases i with
       | zero =>
         simp at hi
         subst hi
         refine ⟨v, k, rfl, rfl, ?_⟩
         rw [putM_none _ _ _ _ (by simp)]
         simpa [toks] using hv
       | succ i =>
         obtain ⟨u, k', k1, k2, k3⟩ := h3 i o' (by simpa using hi)
         refine ⟨u, k', by simpa using k1, by simpa using k2, ?_⟩
         rw [putM, putM_shift, if_pos (by simp)]
         have e1 : e.length + (toks ((k :: ks).take (i + 1))).length = (e ++ k.toList).length + (toks (ks.take i)).length := by
           cases k <;> simp [toks]
           omega
         have e2 : H ++ (e ++ toks ((k :: ks).take (i + 1))) = H ++ ((e ++ k.toList) ++ toks (ks.take i)) := by
           cases k <;> simp [toks]
         rw [e1, e2]
         simpa using k3
   . cases h
theorem mem_xreads {i : Nat} : ∀ {xs : List X}, X.t i ∈ xs -> i ∈ xreads xs
 | .t j :: r, h => by
   rw [xreads]
   rcases List.mem_cons.1 h with h | h
   . cases h; exact List.mem_cons_self
   . exact List.mem_cons_of_mem _ (mem_xreads h)
 | .c _ :: r, h => by
   rw [xreads]
   rcases List.mem_cons.1 h with h | h
   . cases h
   . exact mem_xreads h
theorem ev_congr {tm tm' : List AV} {xs : List X} (h : ∀ t ∈ xreads xs, tm[t]? = tm'[t]?) : ∀ x ∈ xs, x.ev tm = x.ev tm' := by
 intro x hx
 cases x with
 | c v => rfl
 | t i =>
   have := h i (mem_xreads hx)
   simp [X.ev, List.getD_eq_getElem?_getD, this]
theorem evP_congr {tm tm' : List AV} : ∀ {ps : List (Nat × Nat × X)}, (∀ x ∈ ps.map (·.2.2), x.ev tm = x.ev tm') -> evP tm ps = evP tm' ps
 | [], _ => rfl
 | (o, s, x) :: r, h => by
   rw [evP, evP, h x (by simp), evP_congr (fun y hy => h y (by simp at hy ⊢; exact .inr hy))]
theorem aval_congr {tm tm' : List AV} {o : AOp} (h : ∀ x ∈ o.xs, x.ev tm = x.ev tm') : aval o tm H = aval o tm' H := by
 cases o with
 | build zs ps => simp only [aval]; rw [evP_congr h]
 | bslice s n zs ps => simp only [aval]; rw [evP_congr h]
 | bsfull s n zs ps => simp only [aval]; rw [evP_congr h]
 | mkfn f caps => simp only [aval]; rw [List.map_congr_left (fun x hx => h x (by simpa [AOp.xs] using hx))]
 | mkbnd f caps => simp only [aval]; rw [List.map_congr_left (fun x hx => h x (by simpa [AOp.xs] using hx))]
 | chk l s =>
   simp only [AOp.xs, List.mem_append] at h
   simp only [aval]
   rw [List.map_congr_left (fun x hx => h x (.inl hx)), List.map_congr_left (l := s) (fun x hx => h x (.inr hx))]
 | slice s x lo hi =>
   cases lo <;> cases hi <;> simp [AOp.xs] at h <;> simp only [aval, bound, h]
 | slarr n s x lo hi =>
   cases lo <;> cases hi <;> simp [AOp.xs] at h <;> simp only [aval, bound, h]
 | slstr x lo hi =>
   cases lo <;> cases hi <;> simp [AOp.xs] at h <;> simp only [aval, bound, h]
 | slc3 s x lo hi mx =>
   cases lo <;> cases hi <;> cases mx <;> simp [AOp.xs] at h <;> simp only [aval, bound, h]
 | _ => simp [AOp.xs] at h <;> simp only [aval, h]
theorem ap1_congr {cb : CB} {G : Heap} {tm tm' : List AV} {o : AOper} {g : Nat} (h : ∀ t ∈ o.reads, tm[t]? = tm'[t]?) : ap1 cb H G o tm g = ap1 cb H G o tm' g := by
 have hx : ∀ x ∈ o.op.xs, x.ev tm = x.ev tm' := ev_congr (fun t ht => h t (by
   unfold AOper.reads
   split
   . exact ht
   . exact List.mem_cons_of_mem _ ht))
 have hw : wantedA tm o.guard = wantedA tm' o.guard := by
   unfold wantedA
   split
   . rfl
   . rename_i g t b hg
     rw [h t (by simp [AOper.reads, hg])]
 have hargs : ∀ f args, o.op = .callf f args -> args.map (·.ev tm) = args.map (·.ev tm') := fun f args ho =>
   List.map_congr_left (fun x hm => hx x (by rw [ho]; exact hm))
 have hargsv : ∀ f args, o.op = .callv f args -> f.ev tm = f.ev tm' /\ args.map (·.ev tm) = args.map (·.ev tm') := fun f args ho =>
   ⟨hx f (by rw [ho]; exact List.mem_cons_self), List.map_congr_left (fun x hm => hx x (by rw [ho]; exact List.mem_cons_of_mem _ hm))⟩
 unfold ap1
 rw [hw, aval_congr hx]
 split
 . split
   . rfl
   . split
     . rfl
     . rename_i ho
       rw [aval_congr (H := G) (fun x hm => hx x (by rw [ho]; exact hm))]
     . rename_i f args ho
       rw [hargs f args ho]
     . rename_i f args ho
       rw [(hargsv f args ho).1, (hargsv f args ho).2]
     . rfl
 . rfl
theorem get_app {id : Nat} {x : AObj} (X : Heap) (h : H[id]? = some x) : (H ++ X)[id]? = some x := by
 rw [List.getElem?_append_left (List.getElem?_eq_some_iff.1 h).1]
 exact h
theorem aval_app {o : AOp} {v : AV} (X : Heap) (h : aval o tm H = some v) : aval o tm (H ++ X) = some v := by
 cases o with
 | load sz ag x =>
   simp only [aval] at h ⊢
   split at h
   . split at h
     . rename_i hc; rw [get_app X hc]; exact h
     . cases h
   . exact h
   . cases h
 | lookup kk zero x i ok =>
   simp only [aval] at h ⊢
   split at h
   . exact h
   . split at h
     . rename_i hc; rw [get_app X hc]; exact h
     . cases h
   . cases h
 | len k x =>
   simp only [aval] at h ⊢
   split at h
   . exact h
   . exact h
   . exact h
   . exact h
   . exact h
   . split at h
     . rename_i hc; rw [get_app X hc]; exact h
     . cases h
   . cases h
 | _ => exact h
theorem WR.fill (hW : WR P w0 V H W) {V' : View} {W' : World} {id : Nat} {o : AObj} (hid : H[id]? = some .dead) (hs : Stp V W V' W' none) (hi : ∀ p v, V'.imm p = some v -> W'.cell? p = some v /\ v.oneCell' = true)
   (hf : ∀ i, H.length <= i -> V'.loc i = none) (ho : ObjR P w0 V' W' id o) (hb : ∀ b, blkOf V' id = some b -> W.heap.size <= b) : WR P w0 V' (H.set id o) W' := by
 have hlt : id < H.length := (List.getElem?_eq_some_iff.1 hid).1
 have get : ∀ (i : Nat) (x : AObj), (H.set id o)[i]? = some x -> (i = id /\ x = o) ∨ (i ≠ id /\ H[i]? = some x) := by
   intro i x hx
   rw [List.getElem?_set] at hx
   by_cases hi : id = i
   . subst hi
     simp [hlt] at hx
     exact .inl ⟨rfl, hx.symm⟩
   . rw [if_neg hi] at hx
     exact .inr ⟨fun e => hi e.symm, hx⟩
 have back : ∀ (i : Nat) (x : AObj) (b : Nat), H[i]? = some x -> x.live = true -> blkOf V' i = some b -> blkOf V i = some b /\ b < W.heap.size := by
   intro i x b hx hl hbi
   obtain ⟨c, hc, _, hlt⟩ := (hW.obj i x hx).blk hl
   have := blkOf_le hs.le hc
   rw [hbi] at this
   cases this
   exact ⟨hc, hlt⟩
 refine ⟨Below.of_grown hW.below hs.grown (by simp), hi, fun i x hx => ?_, ?_, fun i hi' => hf i (by simpa using hi')⟩
 . rcases get i x hx with ⟨rfl, rfl⟩ | ⟨_, hx⟩
   . exact ho
   . exact (hW.obj i x hx).kept hs (by simp)
 . intro i j x y b hx hy lx ly bx bY
   rcases get i x hx with ⟨rfl, rfl⟩ | ⟨_, hx'⟩ <;> rcases get j y hy with ⟨rfl, rfl⟩ | ⟨_, hy'⟩
   . rfl
   . have h1 := hb b bx
     have h2 := back j y b hy' ly bY
     omega
   . have h1 := hb b bY
     have h2 := back i x b hx' lx bx
     omega
   . exact hW.inj i j x y b hx' hy' lx ly (back i x b hx' lx bx).1 (back j y b hy' ly bY).1
theorem WR.deads (hW : WR P w0 V H W) (n : Nat) : WR P w0 V (H ++ List.replicate n .dead) W := by
 have get : ∀ (i : Nat) (x : AObj), (H ++ List.replicate n .dead)[i]? = some x -> x.live = true -> H[i]? = some x := by
   intro i x hx hl
   by_cases hi : i < H.length
   . rwa [List.getElem?_append_left hi] at hx
   . rw [List.getElem?_append_right (by omega), List.getElem?_replicate] at hx
     split at hx
     . cases hx; cases hl
     . cases hx
 refine ⟨hW.below, hW.imm, fun i x hx => ?_, fun i j x y b hx hy hlx hly hbx hby => hW.inj i j x y b (get i x hx hlx) (get j y hy hly) hlx hly hbx hby, fun i hi => hW.fresh i (by simp at hi; omega)⟩
 cases hl : x.live with
 | true => exact hW.obj i x (get i x hx hl)
 | false => cases x <;> first | (cases hl; done) | trivial
def heapK (Hc : Heap) (g : Nat) : Option AObj -> Heap
 | none => Hc
 | some sz => Hc.set g sz
theorem cOp_alloc {o : Oper} {zs : List AV} (hc : cOp P o = some (.alloc zs)) : ∃ t, o.op = .alloc t := by
 cases ho : o.op
 case makeFunc f a b =>
   exfalso
   cases f <;> simp only [cOp, ho] at hc <;> (try (cases hc; done))
   (repeat' split at hc) <;> simp [Option.map_eq_some_iff] at hc
 case makeMap t r => exfalso; cases r <;> simp [cOp, ho] at hc
 case slice t x lo hi mx =>
   exfalso
   cases mx with
   | none =>
     simp only [cOp, ho] at hc
     (repeat' split at hc) <;> simp [Option.map_eq_some_iff] at hc
   | some mx =>
     cases hi with
     | none => simp only [cOp, ho] at hc; cases hc
     | some hi =>
       simp only [cOp, ho] at hc
       (repeat' split at hc) <;> simp [Option.map_eq_some_iff] at hc
 all_goals first
   | exact ⟨_, rfl⟩
   | (exfalso; simp only [cOp, ho] at hc; (repeat' split at hc) <;> simp [Option.map_eq_some_iff, Option.bind_eq_some_iff] at hc; done)
   | skip
 case call c =>
   exfalso
   simp only [cOp, ho] at hc
   obtain ⟨callee, args, tys⟩ := c
   cases callee with
   | value f =>
     cases f <;> simp only [cCall] at hc
     case func f =>
       split at hc
       . obtain ⟨xs, _, hc⟩ := Option.bind_eq_some_iff.1 hc
         unfold cNat at hc
         split at hc <;> cases hc
       . obtain ⟨xs, _, hc⟩ := Option.map_eq_some_iff.1 hc
         split at hc
         . cases hc
         . split at hc <;> cases hc
     all_goals (split at hc <;> cases hc)
   | invoke r m => simp [cCall] at hc
   | builtin b =>
     cases b <;> simp only [cCall] at hc <;> (try (cases hc; done)) <;> (repeat' split at hc) <;> first | (cases hc; done) | (simp [Option.map_eq_some_iff] at hc; done) | (simp at hc; (repeat' split at hc) <;> cases hc)
theorem ap1_live {cb : CB} {G : Heap} {o : AOper} {tm : List AV} {g : Nat} {v : AV} {q : AObj} (h : ap1 cb H G o tm g = some (v, some q)) : q.live = true := by
 unfold ap1 at h
 split at h
 . split at h
   . cases h
   . split at h
     . cases h; rfl
     . obtain ⟨_, _, e⟩ := Option.map_eq_some_iff.1 h; cases e
     . split at h <;> cases h <;> rfl
     . split at h
       . split at h <;> cases h <;> rfl
       . cases h
     . cases h
 . cases h
theorem pre_ok {cb : CB} (hcb : CbOk P cb) {ro : Option Nat} {ops : Array Oper} {o : Oper} {ao : AOper} {fr : Fr} {Q : Exit -> Act -> World -> Prop} {next : Act -> World -> Prop} {v : AV} {k : Option AObj} {g : Nat} {X G : Heap}
   (hG : ∀ id o, G[id]? = some o -> (∃ l, V.loc id = some l) -> (H ++ X)[id]? = some o)
   (hc : cOper P ops o = some ao) (hF : FrR V fr a) (hW : WR P w0 V (H ++ X) W) (h : ap1 cb H G ao fr.tm g = some (v, k)) (hg : ∀ sz, k = some sz -> (H ++ X)[g]? = some .dead /\ V.loc g = none)
   (hn : ∀ V' a' W', Grow w0 V V' -> WR P w0 V' (heapK (H ++ X) g k) W' -> (∀ i, k = none ∨ i ≠ g -> V'.loc i = V.loc i) -> FrR V' { fr with tm := putD fr.tm ao.dst v } a' -> next a' W') :
   if Region.wanted o (yielded ops a.tmps) then o.wpIn (Fk ro) 0 P a W next Q else (∀ f, o.about P W a.eval = some f -> (Fk ro).fn f) /\ next (a.put o.dst undef) W := by
 obtain ⟨hop, hdst⟩ := oper_parts hc
 rw [wanted_ok hF.tm hc, hdst]
 unfold ap1 at h
 split at h
 . rename_i hw
   rw [if_pos hw]
   refine ⟨fun _ _ => trivial, ?_⟩
   split at h
   . rename_i u hv
     cases h
     have hnd := not_defer hop (by rintro x xs hx; rw [hx] at hv; cases hv)
     obtain ⟨V', W', u, h1, h2, h3, h4, h5⟩ := aval_sound hW hF.tm hop (aval_app X hv)
     rw [Oper.semAt_eq _ _ _ hnd, h1, Oper.uponIn_value, hdst]
     exact hn V' _ W' (h3.grow hW.size (by simp)) h4 (fun i _ => by rw [h5]) (put_ok hF h3.le h2 _)
   . have core : ∀ (f : FuncId) (as : List AV), aact ao.op fr.tm (H ++ X) = some (.enter f as, H ++ X) -> (match pcx cb f as H with | some (.plain v) => some (v, none) | some (.fresh sz n cs) => some (.sl sz n cs (.own g), some (.tok sz)) | some (.fmap es) => some (.mp g, some (.map es)) | _ => none) = some (v, k) -> Oper.uponIn (Fk ro) 0 P o a next Q (Sem.run P (Oper.semAt (Fk ro).round a.eval o) W) := by
       intro f as hact h
       have hnd := not_defer hop (by rintro x xs hx; rw [hx] at hact; simp only [aact] at hact; split at hact <;> cases hact)
       obtain ⟨_, us, h1, h2⟩ := aact_sound (nx := .enter f as) (H' := H ++ X) hW hF.tm hop hact
       rw [Oper.semAt_eq _ _ _ hnd, h1]
       split at h
       . rename_i u hp
         cases h
         obtain ⟨k1, k2⟩ := pcx_ok hcb hW (fun _ _ h => get_app X h) h2 hp
         rw [k1, Oper.uponIn_enter]
         refine ⟨by simp [Fk], callsIn_fk (k2.mono ?_)⟩
         rintro e W' ⟨I, j1, j2, j3, j4, j5⟩
         have hs : Stp V W ⟨I, V.loc⟩ W' none := ⟨⟨j3, fun _ _ h => h⟩, below_grown j1, fun p v hp => (j4 p v hp).elim .inl (fun h => .inr (.inl h))⟩
         cases e with
         | returned u =>
           show next (a.put o.dst u) W'
           rw [hdst]
           exact hn ⟨I, V.loc⟩ _ W' (hs.grow hW.size (by simp)) (hW.step hs j2 hW.fresh) (fun _ _ => rfl) (put_ok hF hs.le j5 _)
         | panicked _ => exact j5.elim
         | outgrown => exact j5.elim
       . rename_i sz n cs hp
         cases h
         obtain ⟨hdead, hgl⟩ := hg (.tok sz) rfl
         have hglt : g < (H ++ X).length := (List.getElem?_eq_some_iff.1 hdead).1
         obtain ⟨k1, k2⟩ := pcx_ok hcb hW (fun _ _ h => get_app X h) h2 hp
         rw [k1, Oper.uponIn_enter]
         refine ⟨by simp [Fk], callsIn_fk (k2.mono ?_)⟩
         rintro e W' ⟨I, j1, j2, j3, j4, j5⟩
         cases e with
         | returned u =>
           obtain ⟨e', xs, b, cap, rfl, hown, hsp, _, hrep⟩ := j5
           let V' : View := ⟨I, fun i => if i = g then some (.own (.slice (some ⟨b, 0, none⟩) n cap)) else V.loc i⟩
           have hloc : ∀ i l, V.loc i = some l -> V'.loc i = some l := by
             intro i l hl
             have : i ≠ g := fun e => by rw [e, hgl] at hl; cases hl
             show (if i = g then _ else V.loc i) = some l
             rw [if_neg this]
             exact hl
           have hself : V'.loc g = some (.own (.slice (some ⟨b, 0, none⟩) n cap)) := by simp [V']
           have hs : Stp V W V' W' none := ⟨⟨j3, hloc⟩, below_grown j1, fun p v hp => (j4 p v hp).elim .inl (fun h => .inr (.inl h))⟩
           have hbb := hown.lt b rfl
           have hown' : W'.ownsRow w0.heap.size e' sz (.slice (some ⟨b, 0, none⟩) n cap) n xs := by
             refine ⟨hown.1, ?_⟩
             rcases hown.2 with h | ⟨g, cap', cur, h1, h2, h3⟩
             . exact .inl h
             . exact .inr ⟨g, cap', cur, h1, Nat.le_trans hW.size h2, h3⟩
           have hW' : WR P w0 V' ((H ++ X).set g (.tok sz)) W' := by
             refine hW.fill hdead hs j2 (fun i hi => ?_) ⟨_, e', n, xs, b, hself, hown', rfl, hsp⟩ (fun c hc => ?_)
             . show (if i = g then _ else V.loc i) = none
               rw [if_neg (by omega)]
               exact hW.fresh i hi
             . simp only [blkOf, hself, Value.ownBlock, Option.some.injEq] at hc
               omega
           show next (a.put o.dst _) W'
           rw [hdst]
           refine hn V' _ W' (hs.grow hW.size (by simp)) hW' (fun i hi => ?_) (put_ok hF hs.le (hrep _ _ hloc hself) _)
           have hig : i ≠ g := hi.resolve_left (by simp)
           show (if i = g then _ else V.loc i) = _
           rw [if_neg hig]
         | panicked _ => exact j5.elim
         | outgrown => exact j5.elim
       . rename_i es hp
         cases h
         obtain ⟨hdead, hgl⟩ := hg (.map es) rfl
         have hglt : g < (H ++ X).length := (List.getElem?_eq_some_iff.1 hdead).1
         obtain ⟨k1, k2⟩ := pcx_ok hcb hW (fun _ _ h => get_app X h) h2 hp
         rw [k1, Oper.uponIn_enter]
         refine ⟨by simp [Fk], callsIn_fk (k2.mono ?_)⟩
         rintro e W' ⟨I, j1, j2, j3, j4, j5⟩
         cases e with
         | returned u =>
           obtain ⟨b, ents, clk, rfl, hge, hh, hrep⟩ := j5
           let V' : View := ⟨I, fun i => if i = g then some (.blk b) else V.loc i⟩
           have hloc : ∀ i l, V.loc i = some l -> V'.loc i = some l := by
             intro i l hl
             have : i ≠ g := fun e => by rw [e, hgl] at hl; cases hl
             show (if i = g then _ else V.loc i) = some l
             rw [if_neg this]
             exact hl
           have hself : V'.loc g = some (.blk b) := by simp [V']
           have hs : Stp V W V' W' none := ⟨⟨j3, hloc⟩, below_grown j1, fun p v hp => (j4 p v hp).elim .inl (fun h => .inr (.inl h))⟩
           have hW' : WR P w0 V' ((H ++ X).set g (.map es)) W' := by
             refine hW.fill hdead hs j2 (fun i hi => ?_) ⟨b, ents, clk, hself, Nat.le_trans hW.size hge, hh, (hrep _).1, (hrep _).2⟩ (fun c hc => ?_)
             . show (if i = g then _ else V.loc i) = none
               rw [if_neg (by omega)]
               exact hW.fresh i hi
             . simp only [blkOf, hself, Option.some.injEq] at hc
               omega
           show next (a.put o.dst _) W'
           rw [hdst]
           refine hn V' _ W' (hs.grow hW.size (by simp)) hW' (fun i hi => ?_) (put_ok hF hs.le (.mp hself) _)
           have hig : i ≠ g := hi.resolve_left (by simp)
           show (if i = g then _ else V.loc i) = _
           rw [if_neg hig]
         | panicked _ => exact j5.elim
         | outgrown => exact j5.elim
       . cases h
     split at h
     . rename_i zs ho
       cases h
       obtain ⟨hdead, hgl⟩ := hg (.cells zs) rfl
       have hglt : g < (H ++ X).length := (List.getElem?_eq_some_iff.1 hdead).1
       rw [ho] at hop
       obtain ⟨t, hot⟩ := cOp_alloc hop
       have hop2 := hop
       simp only [cOp, hot] at hop2
       split at hop2
       case h_2 => cases hop2
       rename_i z hz
       split at hop2
       case isFalse => cases hop2
       rename_i hone
       cases hop2
       obtain ⟨zv, i, hi, hzero, hsz, hrz, hrun⟩ := zeroOf_run (V := V) hz
       have hrun2 : (Instr.alloc t true (.tuple #[])).run P W = .ok (.pointer (some ⟨W.heap.size, 0, none⟩)) (W.alloc (.cells zv.cells t)) := by
         simp [Instr.alloc, hrun W, newVar, newRow]
       have h1 : (execOp a.eval o).run P W = .ok (.value (.pointer (some ⟨W.heap.size, 0, none⟩))) (W.alloc (.cells zv.cells t)) := by
         simpa [execOp, hot] using val_run hrun2
       have hnd : ∀ c, o.op ≠ .defer c := by rw [hot]; intro c e; cases e
       rw [Oper.semAt_eq _ _ _ hnd, h1, Oper.uponIn_value, hdst]
       have hs : Stp V W (V.at g (.blk W.heap.size)) (W.alloc (.cells zv.cells t)) none := ⟨View.le_at hgl _, World.grownBy_alloc W _ none, fun _ _ hp => .inl hp⟩
       have hW' : WR P w0 (V.at g (.blk W.heap.size)) ((H ++ X).set g (.cells z.flat)) (W.alloc (.cells zv.cells t)) := by
         have hrf := hrz.flat
         refine hW.fill hdead hs (imm_alloc hW _) (fun i hi => ?_) ⟨W.heap.size, zv.cells, t, View.at_blk _ _ _, hW.size, heap_alloc_new W _, hrf.whole.mono hs.le, hrf.whole.allOne hone, fun off => ?_, fun b' sz cap he => ?_⟩ (fun c hc => ?_)
         . show (if i = g then _ else V.loc i) = none
           rw [if_neg (by omega)]
           exact hW.fresh i hi
         . cases hp : (V.at g (.blk W.heap.size)).imm ⟨W.heap.size, off, none⟩ with
           | none => rfl
           | some v => exact absurd (hW.imm_lt _ _ hp) (Nat.lt_irrefl _)
         . rw [View.at_self] at he; cases he
         . rw [View.at_blk] at hc; cases hc; exact Nat.le_refl _
       refine hn _ _ _ (hs.grow hW.size (by simp)) hW' (fun i hi => ?_) (put_ok hF hs.le (.ptr (View.at_blk _ _ _)) _)
       have hig : i ≠ g := hi.resolve_left (by simp)
       show (if i = g then _ else V.loc i) = _
       rw [if_neg hig]
     . rename_i kk zero i0 key ok ho
       obtain ⟨u0, hv, e⟩ := Option.map_eq_some_iff.1 h
       cases e
       have hv2 : aval ao.op fr.tm (H ++ X) = some v := by
         rw [ho]
         have hr : ∃ q, Rep V (fr.tm.getD i0 (.tup [])) q := by
           rw [List.getD_eq_getElem?_getD]
           cases hq : fr.tm[i0]? with
           | none => exact ⟨_, Rep.undef V⟩
           | some y => obtain ⟨q, _, hq2⟩ := hF.tm.get hq; exact ⟨q, hq2⟩
         obtain ⟨q, hr⟩ := hr
         simp only [aval, show (Go.Am.X.t i0).ev fr.tm = fr.tm.getD i0 (.tup []) from rfl] at hv ⊢
         split at hv
         . exact hv
         . rename_i id he
           rw [he] at hr
           split at hv
           . rename_i es hg
             have : (H ++ X)[id]? = some (.map es) := hG id _ hg (by
               cases hr
               exact ⟨_, by assumption⟩)
             simp only [this]
             exact hv
           . cases hv
         . cases hv
       have hnd := not_defer hop (by rintro x xs hx; rw [hx] at ho; cases ho)
       obtain ⟨V', W', u, h1, h2, h3, h4, h5⟩ := aval_sound hW hF.tm hop hv2
       rw [Oper.semAt_eq _ _ _ hnd, h1, Oper.uponIn_value, hdst]
       exact hn V' _ W' (h3.grow hW.size (by simp)) h4 (fun i _ => by rw [h5]) (put_ok hF h3.le h2 _)
     . rename_i f args ho
       exact core f _ (by rw [ho]; rfl) h
     . rename_i x args ho
       split at h
       . rename_i f as hcal
         refine core f as ?_ h
         rw [ho]
         simp only [aact]
         revert hcal
         cases x.ev fr.tm <;> simp only [calleeA] <;> intro hcal <;> cases hcal <;> rfl
       . cases h
     . cases h
 . rename_i hw
   cases h
   rw [if_neg hw]
   exact ⟨fun _ _ => trivial, hn V _ W (.refl w0 V) hW (fun _ _ => rfl) (put_ok hF (.refl V) (Rep.undef V) _)⟩
end Go.Am
