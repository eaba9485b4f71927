/- REGIONS THAT DRAW THEIR ORDER, the walk over all orders. No condition. -/
import Derived.Test.YtncmflmjlocgiaaAmDraw
set_option linter.unusedSimpArgs false
set_option linter.unusedVariables false
set_option linter.unusedSectionVars false
namespace Go.Am
open Go Go.RowKit
set_option linter.unusedSectionVars false
variable [Thaw]
variable {P : Program} {w0 : World} {V : View} {H : Heap} {W : World} {tm : List AV} {a : Act}

theorem getD_size {listed : Array Bool} {i : Nat} (h : i < listed.size) : listed.getD i true = listed.getD i false := by simp [h]
theorem ready_iff {ops : Array Oper} {listed : Array Bool} (hs : listed.size = ops.size) {i : Nat} :
    i ∈ Region.ready .any ops listed ↔ ∃ o, ops[i]? = some o ∧ listed.getD i false = false ∧ ∀ e ∈ o.after, Region.binds .any e = true → listed.getD e.on false = true := by
  rw [mem_ready]
  constructor
  · rintro ⟨h1, o, h2, h3⟩
    have : i < listed.size := by rw [hs]; exact (Array.getElem?_eq_some_iff.1 h2).1
    exact ⟨o, h2, by rw [← getD_size this]; exact h1, h3⟩
  · rintro ⟨o, h2, h1, h3⟩
    have : i < listed.size := by rw [hs]; exact (Array.getElem?_eq_some_iff.1 h2).1
    exact ⟨by rw [getD_size this]; exact h1, o, h2, h3⟩
theorem set_getD {listed : Array Bool} {i : Nat} (hi : i < listed.size) (j : Nat) : (listed.setIfInBounds i true).getD j false = (decide (i = j) || listed.getD j false) := by
  by_cases h : i = j
  · subst h; simp [hi]
  · simp [h, Array.getElem?_setIfInBounds_ne h]
theorem ready_some {ops : Array Oper} {listed : Array Bool} (hs : listed.size = ops.size) (hD : ∀ (j : Nat) (o : Oper) (e : Edge), ops[j]? = some o → e ∈ o.after → Region.binds .any e = true → e.on < j)
    (h : Region.ready .any ops listed = []) : ∀ i, i < ops.size → listed.getD i false = true := by
  intro i
  induction i using Nat.strongRecOn with
  | _ i ih =>
    intro hi
    cases hb : listed.getD i false with
    | true => rfl
    | false =>
      have : i ∈ Region.ready .any ops listed := (ready_iff hs).2 ⟨ops[i], by simp [hi], hb, fun e he hbd => by
        have := hD i _ e (by simp [hi]) he hbd
        exact ih e.on this (by omega)⟩
      rw [h] at this
      cases this
def cnt : List Bool → Nat
  | [] => 0
  | b :: r => (if b then 0 else 1) + cnt r
theorem cnt_le : ∀ l, cnt l ≤ l.length
  | [] => Nat.le_refl _
  | b :: r => by rw [cnt, List.length_cons]; have := cnt_le r; split <;> omega
theorem cnt_set : ∀ (l : List Bool) (i : Nat), l[i]? = some false → cnt (l.set i true) + 1 = cnt l
  | [], _, h => by simp at h
  | b :: r, 0, h => by simp at h; subst h; simp [cnt]; omega
  | b :: r, i + 1, h => by
    have := cnt_set r i (by simpa using h)
    simp only [List.set_cons_succ, cnt]
    omega
theorem cnt_zero : ∀ (l : List Bool), cnt l = 0 → ∀ (i : Nat) (b : Bool), l[i]? = some b → b = true
  | [], _, _, _, h => by simp at h
  | c :: r, hc, 0, b, h => by
    simp at h
    subst h
    rw [cnt] at hc
    cases c with
    | true => rfl
    | false => simp at hc
  | c :: r, hc, i + 1, b, h => by rw [cnt] at hc; exact cnt_zero r (by omega) i b (by simpa using h)

structure DrawOk (ops : Array Oper) (os : List AOper) (s : Nat) : Prop where
  back : ∀ (j : Nat) (o : Oper) (e : Edge), ops[j]? = some o → e ∈ o.after → Region.binds .any e = true → e.on < j
  pair : ∀ i j, i < j → j < ops.size → Ord ops i j ∨ (j < s ∧ ∃ x y, os[i]? = some x ∧ os[j]? = some y ∧ apartA x y = true)
theorem drawOk_sound {ops : Array Oper} {os : List AOper} {s : Nat} (h : drawOk ops os (befL ops.toList []) s = true) : DrawOk ops os s := by
  have hb : ∀ k i, ((befL ops.toList []).getD k 0).testBit i = true → Ord ops i k := befL_sound ops.toList [] (fun k => by simp) (fun k i h => by simp at h)
  unfold drawOk at h
  rw [List.all_eq_true] at h
  constructor
  · intro j o e ho he hbd
    have hj : j < ops.size := (Array.getElem?_eq_some_iff.1 ho).1
    have h1 := h j (by simpa using hj)
    rw [Bool.and_eq_true, ho] at h1
    have h2 := h1.1
    simp only [Option.map_some, Option.getD_some, List.all_eq_true] at h2
    have h3 := h2 e (by simpa using he)
    simpa [hbd] using h3
  · intro i j hij hj
    have h1 := h j (by simpa using hj)
    rw [Bool.and_eq_true] at h1
    have h2 := h1.2
    rw [List.all_eq_true] at h2
    have h3 := h2 i (by simpa using hij)
    rw [Bool.or_eq_true] at h3
    rcases h3 with h3 | h3
    · exact .inl (hb _ _ h3)
    · right
      unfold pairOk at h3
      rw [Bool.and_eq_true, decide_eq_true_eq] at h3
      refine ⟨h3.1, ?_⟩
      have h4 := h3.2
      split at h4
      · rename_i x y hx hy; exact ⟨x, y, hx, hy, h4⟩
      · cases h4
theorem firstTail_le (b : List Nat) : ∀ n, firstTail b n ≤ n
  | 0 => Nat.le_refl _
  | n + 1 => by
    rw [firstTail]
    split
    · exact Nat.le_succ_of_le (firstTail_le b n)
    · exact Nat.le_refl _
theorem apartA_spec {x y : AOper} (h : apartA x y = true) : (∀ t, x.dst = some t → t ∉ y.reads) ∧ (∀ t, x.dst = some t → y.dst ≠ some t) ∧ (∀ t, y.dst = some t → t ∉ x.reads) := by
  refine ⟨fun t ht => ?_, fun t ht => ?_, fun t ht => ?_⟩ <;> simp [apartA, ht] at h
  · exact h.1.1
  · exact h.1.2
  · exact h.2

section
variable {cb : CB} {rd ro : Option Nat} {ops : Array Oper} {os : List AOper} {s : Nat} {Q : Exit → Act → World → Prop} {r : Ex × Fr × Heap}
theorem draw_tail (hcb : CbOk P cb) (hos : mapO (cOper P ops) ops.toList = some os) (hD : DrawOk ops os s) : ∀ (fuel k : Nat) (listed : Array Bool) (V : View) (W : World) (a : Act) (fr : Fr) (H : Heap),
    listed.size = ops.size → (∀ i, i < ops.size → listed.getD i false = decide (i < k)) → s ≤ k → k ≤ ops.size → ops.size - k ≤ fuel → RdR V rd ro → FrR V fr a → WR P w0 V H W →
    aregion cb rd (os.drop k) fr H = some r → (∀ V' a' W' ex, Grow w0 V V' → WR P w0 V' r.2.2 W' → FrR V' r.2.1 a' → ExR V' r.1 ex → Q ex a' W') →
    wpAnyIn (Fk ro) 0 P .any ops Q fuel listed a W := by
  obtain ⟨hlen, hmap⟩ := mapO_some hos
  simp only [Array.length_toList] at hlen
  have fin : ∀ (V : View) (W : World) (a : Act) (fr : Fr) (H : Heap), FrR V fr a → WR P w0 V H W → aregion cb rd (os.drop ops.size) fr H = some r →
      (∀ V' a' W' ex, Grow w0 V V' → WR P w0 V' r.2.2 W' → FrR V' r.2.1 a' → ExR V' r.1 ex → Q ex a' W') → Q .normal a W := by
    intro V W a fr H hF hW h hQ
    rw [List.drop_of_length_le (by omega)] at h
    cases h
    exact hQ V a W _ (.refl w0 V) hW hF trivial
  have only : ∀ (k : Nat) (listed : Array Bool), listed.size = ops.size → (∀ i, i < ops.size → listed.getD i false = decide (i < k)) → s ≤ k → ∀ i ∈ Region.ready .any ops listed, i = k := by
    intro k listed hs hl hk i hi
    obtain ⟨o, ho, hu, hr⟩ := (ready_iff hs).1 hi
    have hin : i < ops.size := (Array.getElem?_eq_some_iff.1 ho).1
    have h1 : ¬ i < k := by rw [hl i hin] at hu; simpa using hu
    rcases Nat.lt_trichotomy i k with h | h | h
    · exact absurd h h1
    · exact h
    · exfalso
      rcases hD.pair k i h hin with ho2 | ⟨h2, _⟩
      · have hcl : Closed ops (fun i => listed.getD i false) := by
          intro j o e ho hj he hb
          have hjn : j < ops.size := (Array.getElem?_eq_some_iff.1 ho).1
          have h3 := hD.back j o e ho he hb
          have h4 : j < k := by have := hj; simp only [hl j hjn] at this; simpa using this
          show listed.getD e.on false = true
          rw [hl e.on (by omega)]
          simp; omega
        have := ho2.ready hcl (fun o' e ho' he hb => by rw [ho] at ho'; cases ho'; exact hr e he hb)
        simp only [hl k (by omega)] at this
        simp at this
      · omega
  intro fuel
  induction fuel with
  | zero =>
    intro k listed V W a fr H hs hl hk hkn hf hrd hF hW h hQ
    have hkn' : k = ops.size := by omega
    subst hkn'
    refine ⟨?_, fin V W a fr H hF hW h hQ⟩
    apply List.eq_nil_iff_forall_not_mem.2
    intro i hi
    obtain ⟨o, ho, hu, _⟩ := (ready_iff hs).1 hi
    have hin : i < ops.size := (Array.getElem?_eq_some_iff.1 ho).1
    rw [hl i hin] at hu
    simp [hin] at hu
  | succ fuel ih =>
    intro k listed V W a fr H hs hl hk hkn hf hrd hF hW h hQ
    refine ⟨fun h0 => ?_, fun i hi => ?_⟩
    · have := ready_some hs hD.back h0
      have hkn' : k = ops.size := by
        apply Nat.le_antisymm hkn
        apply Nat.le_of_not_lt
        intro hlt
        have h1 := this k hlt
        rw [hl k hlt] at h1
        simp at h1
      subst hkn'
      exact fin V W a fr H hF hW h hQ
    · have hik := only k listed hs hl hk i hi
      subst hik
      obtain ⟨o, ho, hu, _⟩ := (ready_iff hs).1 hi
      have hin : i < ops.size := (Array.getElem?_eq_some_iff.1 ho).1
      obtain ⟨ao, hc, hao⟩ := hmap i o (by simpa using ho)
      have hdrop : os.drop i = ao :: os.drop (i + 1) := by
        rw [List.drop_eq_getElem_cons (by omega)]
        congr 1
        have := (List.getElem?_eq_some_iff.1 hao).2
        exact this
      rw [hdrop] at h
      unfold wpOpIn
      rw [ho]
      exact oper_ok hcb hrd hc hF hW h (fun V' a' W' fr' H' g1 g2 g3 g4 => ih (i + 1) _ V' W' a' fr' H' (by simpa using hs) (fun j hj => by
          rw [set_getD (by omega), hl j hj]
          by_cases h1 : i = j
          · subst h1; simp
          · simp only [h1, decide_false, Bool.false_or, decide_eq_decide]
            omega) (by omega) (by omega) (by omega) (hrd.mono g1.le) g3 g2 g4 fun V'' a'' W'' ex k1 => hQ V'' a'' W'' ex (g1.trans k1)) hQ
theorem draw_pre (hcb : CbOk P cb) (hos : mapO (cOper P ops) ops.toList = some os) (hD : DrawOk ops os s) (hsn : s ≤ ops.size) {fr : Fr} {tm' : List AV} {ws : List (Option Nat × AV)} {ks : List (Option AObj)}
    (hwl : ws.length = (os.take s).length) (hkl : ks.length = (os.take s).length) (htm : tm' = putM ws (fun _ => true) 0 fr.tm)
    (hws : ∀ (i : Nat) (o : AOper), (os.take s)[i]? = some o → ∃ v k, ws[i]? = some (o.dst, v) ∧ ks[i]? = some k ∧ ap1 cb H o (putM ws (fun j => decide (j < i)) 0 fr.tm) (H.length + (toks (ks.take i)).length) = some (v, k))
    (h : aregion cb rd (os.drop s) { fr with tm := tm' } (H ++ toks ks) = some r) : ∀ (fuel : Nat) (listed : Array Bool) (V : View) (W : World) (a : Act),
    listed.size = ops.size → cnt (listed.toList.take s) + (ops.size - s) ≤ fuel → Closed ops (fun i => listed.getD i false) → (∀ i, s ≤ i → listed.getD i false = false) → RdR V rd ro →
    FrR V { fr with tm := putM ws (fun i => listed.getD i false) 0 fr.tm } a → WR P w0 V (H ++ tokM ks (fun i => listed.getD i false) 0) W →
    (∀ id, (H ++ tokM ks (fun i => listed.getD i false) 0)[id]? = some .dead → H.length ≤ id → V.loc id = none) →
    (∀ V' a' W' ex, Grow w0 V V' → WR P w0 V' r.2.2 W' → FrR V' r.2.1 a' → ExR V' r.1 ex → Q ex a' W') →
    wpAnyIn (Fk ro) 0 P .any ops Q fuel listed a W := by
  obtain ⟨hlen, hmap⟩ := mapO_some hos
  simp only [Array.length_toList] at hlen
  have hsl : (os.take s).length = s := by rw [List.length_take]; omega
  have tk : ∀ i, i < s → (os.take s)[i]? = os[i]? := fun i hi => by rw [List.getElem?_take, if_pos hi]
  have wdst : ∀ (j t : Nat) (v : AV), ws[j]? = some (some t, v) → j < s ∧ ∃ y, os[j]? = some y ∧ y.dst = some t := by
    intro j t v hj
    have hjs : j < s := by have := (List.getElem?_eq_some_iff.1 hj).1; omega
    have : j < os.length := by omega
    obtain ⟨u, _, hu, _⟩ := hws j os[j] (by rw [tk j hjs]; simp [this])
    rw [hj] at hu
    simp only [Option.some.injEq, Prod.mk.injEq] at hu
    exact ⟨hjs, os[j], by simp [this], hu.1.symm⟩
  intro fuel
  induction fuel with
  | zero =>
    intro listed V W a hs hcn hcl hun hrd hF hW hdl hQ
    have hcn' : s = ops.size ∧ cnt (listed.toList.take s) = 0 := by omega
    have hall : ∀ i, i < s → listed.getD i false = true := by
      intro i hi
      have hil : i < listed.size := by omega
      have := cnt_zero _ hcn'.2 i listed[i] (by rw [List.getElem?_take, if_pos hi]; simp [hil])
      simp [hil, this]
    have e : putM ws (fun i => listed.getD i false) 0 fr.tm = tm' := by
      rw [htm]
      apply List.ext_getElem?
      intro t
      exact putM_congr ws _ _ 0 _ _ rfl rfl (fun j v hj => by
        obtain ⟨hjs, _⟩ := wdst j t v hj
        simpa using hall j hjs)
    rw [e] at hF
    have e2 : tokM ks (fun i => listed.getD i false) 0 = toks ks := by
      rw [← tokM_all ks 0]
      exact tokM_congr ks _ _ 0 (fun j sz hj => by
        have hjs : j < s := by have := (List.getElem?_eq_some_iff.1 hj).1; omega
        simpa using hall j hjs)
    rw [e2] at hW
    exact draw_tail hcb hos hD 0 s listed V W a _ _ hs (fun i hi => by rw [hall i (by omega)]; simp; omega) (Nat.le_refl _) hsn (by omega) hrd hF hW h hQ
  | succ fuel ih =>
    intro listed V W a hs hcn hcl hun hrd hF hW hdl hQ
    by_cases hall : ∀ i, i < s → listed.getD i false = true
    · have e : putM ws (fun i => listed.getD i false) 0 fr.tm = tm' := by
        rw [htm]
        apply List.ext_getElem?
        intro t
        exact putM_congr ws _ _ 0 _ _ rfl rfl (fun j v hj => by
          obtain ⟨hjs, _⟩ := wdst j t v hj
          simpa using hall j hjs)
      rw [e] at hF
      have e2 : tokM ks (fun i => listed.getD i false) 0 = toks ks := by
        rw [← tokM_all ks 0]
        exact tokM_congr ks _ _ 0 (fun j sz hj => by
          have hjs : j < s := by have := (List.getElem?_eq_some_iff.1 hj).1; omega
          simpa using hall j hjs)
      rw [e2] at hW
      refine draw_tail hcb hos hD (fuel + 1) s listed V W a _ _ hs (fun i hi => ?_) (Nat.le_refl _) hsn (by omega) hrd hF hW h hQ
      by_cases his : i < s
      · rw [hall i his]; simp [his]
      · rw [hun i (by omega)]; simp; omega
    · have hex : ∃ m, m < s ∧ listed.getD m false = false := by
        apply Classical.byContradiction
        intro hno
        apply hall
        intro i hi
        cases hb : listed.getD i false with
        | true => rfl
        | false => exact absurd ⟨i, hi, hb⟩ hno
      obtain ⟨m, hm, hmu⟩ := hex
      refine ⟨fun h0 => ?_, fun i hi => ?_⟩
      · have := ready_some hs hD.back h0 m (by omega)
        rw [hmu] at this
        cases this
      · obtain ⟨o, ho, hu, hr⟩ := (ready_iff hs).1 hi
        have hin : i < ops.size := (Array.getElem?_eq_some_iff.1 ho).1
        have hrd' : ∀ j, Ord ops j i → listed.getD j false = true := fun j hj => hj.ready hcl (fun o' e ho' he hb => by rw [ho] at ho'; cases ho'; exact hr e he hb)
        have his : i < s := by
          apply Nat.lt_of_not_le
          intro hsi
          rcases hD.pair m i (by omega) hin with h1 | ⟨h1, _⟩
          · have := hrd' m h1
            rw [hmu] at this
            cases this
          · omega
        obtain ⟨ao, hc, hao⟩ := hmap i o (by simpa using ho)
        obtain ⟨v, k, hwv, hkv, hap⟩ := hws i ao (by rw [tk i his]; exact hao)
        have later : ∀ j, i < j → Ord ops i j → listed.getD j false = false := by
          intro j hj hord
          cases hb : listed.getD j false with
          | false => rfl
          | true =>
            have := hord.listed hcl (L := fun i => listed.getD i false) hb
            simp only [hu] at this
            cases this
        have hag : ap1 cb H ao (putM ws (fun i => listed.getD i false) 0 fr.tm) (H.length + (toks (ks.take i)).length) = some (v, k) := by
          rw [← hap]
          refine ap1_congr fun t ht => putM_congr ws _ _ 0 _ _ rfl rfl (fun j u hj => ?_)
          obtain ⟨hjs, y, hy, hyd⟩ := wdst j t u hj
          simp only [Nat.zero_add]
          rcases Nat.lt_trichotomy j i with hji | hji | hji
          · rw [decide_eq_true hji]
            rcases hD.pair j i hji hin with h1 | ⟨_, x, z, hx, hz, hxz⟩
            · exact hrd' j h1
            · rw [hy] at hx; rw [hao] at hz
              cases hx; cases hz
              exact absurd ht ((apartA_spec hxz).1 t hyd)
          · subst hji
            rw [hu]; simp
          · rw [decide_eq_false (by omega)]
            rcases hD.pair i j hji (by omega) with h1 | ⟨_, x, z, hx, hz, hxz⟩
            · exact later j hji h1
            · rw [hao] at hx; rw [hy] at hz
              cases hx; cases hz
              exact absurd ht ((apartA_spec hxz).2.2 t hyd)
        have hput : putD (putM ws (fun i => listed.getD i false) 0 fr.tm) ao.dst v = putM ws (fun j => (listed.setIfInBounds i true).getD j false) 0 fr.tm := by
          apply List.ext_getElem?
          intro t
          by_cases hdt : ao.dst = some t
          · by_cases htl : t < fr.tm.length
            · rw [hdt, putD_eq (by rw [putM_length]; exact htl)]
              refine (putM_last ws _ 0 i fr.tm (by rw [hwv, hdt]) (by rw [set_getD (by omega)]; simp) htl (fun j u hj hw => ?_)).symm
              obtain ⟨hjs, y, hy, hyd⟩ := wdst j t u hw
              simp only [Nat.zero_add]
              rw [set_getD (by omega)]
              have hne : ¬ i = j := by omega
              simp only [hne, decide_false, Bool.false_or]
              rcases hD.pair i j hj (by omega) with h1 | ⟨_, x, z, hx, hz, hxz⟩
              · exact later j hj h1
              · rw [hao] at hx; rw [hy] at hz
                cases hx; cases hz
                exact absurd hyd ((apartA_spec hxz).2.1 t hdt)
            · rw [List.getElem?_eq_none (by rw [putD_length, putM_length]; omega), List.getElem?_eq_none (by rw [putM_length]; omega)]
          · rw [putD_ne hdt]
            refine putM_congr ws _ _ 0 _ _ rfl rfl (fun j u hj => ?_)
            obtain ⟨hjs, y, hy, hyd⟩ := wdst j t u hj
            simp only [Nat.zero_add]
            rw [set_getD (by omega)]
            have hne : ¬ i = j := by
              rintro rfl
              rw [hao] at hy
              cases hy
              exact hdt hyd
            simp [hne]
        have hheap : heapK (H ++ tokM ks (fun i => listed.getD i false) 0) (H.length + (toks (ks.take i)).length) k = H ++ tokM ks (fun j => (listed.setIfInBounds i true).getD j false) 0 := by
          cases k with
          | none =>
            simp only [heapK]
            congr 1
            refine tokM_congr ks _ _ 0 (fun j sz hj => ?_)
            simp only [Nat.zero_add]
            rw [set_getD (by omega)]
            have hne : ¬ i = j := by rintro rfl; rw [hkv] at hj; cases hj
            simp [hne]
          | some sz =>
            simp only [heapK]
            rw [List.set_append_right _ _ (by omega)]
            congr 1
            rw [tokM_set ks (fun i => listed.getD i false) (fun j => (listed.setIfInBounds i true).getD j false) 0 i hkv (by simp only [Nat.zero_add]; rw [set_getD (by omega)]; simp) (fun j hj => by
              rw [set_getD (by omega)]
              have hne : ¬ i = j := by omega
              simp [hne])]
            congr 1
            omega
        have hdead : ∀ sz, k = some sz → (H ++ tokM ks (fun i => listed.getD i false) 0)[H.length + (toks (ks.take i)).length]? = some .dead ∧ V.loc (H.length + (toks (ks.take i)).length) = none := by
          rintro sz rfl
          have h1 : (H ++ tokM ks (fun i => listed.getD i false) 0)[H.length + (toks (ks.take i)).length]? = some .dead := by
            rw [List.getElem?_append_right (by omega), Nat.add_sub_cancel_left]
            exact tokM_get ks _ 0 i hkv (by simpa using hu)
          exact ⟨h1, hdl _ h1 (by omega)⟩
        unfold wpOpIn
        rw [ho]
        refine pre_ok hcb hc hF hW hag hdead (fun V' a' W' g1 g2 g5 g3 => ?_)
        simp only [hput] at g3
        have hdl' : ∀ id, (H ++ tokM ks (fun j => (listed.setIfInBounds i true).getD j false) 0)[id]? = some .dead → H.length ≤ id → V'.loc id = none := by
          intro id hid hge
          rw [← hheap] at hid
          cases k with
          | none =>
            rw [g5 id (.inl rfl)]
            exact hdl id hid hge
          | some sz =>
            simp only [heapK, List.getElem?_set] at hid
            split at hid
            · split at hid
              · cases hid; exact absurd (ap1_live hap) (by simp [AObj.live])
              · cases hid
            · rename_i hne
              rw [g5 id (.inr (fun e => hne e.symm))]
              exact hdl id hid hge
        rw [hheap] at g2
        refine ih _ V' W' a' (by simpa using hs) ?_ ?_ (fun j hj => ?_) (hrd.mono g1.le) g3 g2 hdl' (fun V'' a'' W'' ex k1 => hQ V'' a'' W'' ex (g1.trans k1))
        · have : cnt ((listed.toList.take s).set i true) + 1 = cnt (listed.toList.take s) := cnt_set _ i (by
            have hil : i < listed.size := by omega
            rw [List.getElem?_take, if_pos his]
            simp [hil] at hu ⊢
            exact hu)
          rw [Array.toList_setIfInBounds, List.take_set]
          omega
        · intro j o' e ho' hj he hb
          simp only [set_getD (show i < listed.size by omega)] at hj ⊢
          rw [Bool.or_eq_true] at hj ⊢
          rcases hj with hj | hj
          · simp at hj
            subst hj
            rw [ho] at ho'
            cases ho'
            exact .inr (hr e he hb)
          · exact .inr (hcl j o' e ho' hj he hb)
        · rw [set_getD (by omega), hun j hj]
          simp; omega
theorem drawn_ok (hcb : CbOk P cb) {id : Nat} {pre tail : List AOper} {fr : Fr} {tm' : List AV} (hc : cRegion P ops true = some (.drawn pre tail)) (hrd : RdR V rd ro) (hF : FrR V fr a) (hW : WR P w0 V H W)
    {e' : List AObj} (h0 : apre cb H pre fr.tm [] = some (tm', e')) (h : aregion cb rd tail { fr with tm := tm' } (H ++ e') = some r)
    (hQ : ∀ V' a' W' ex, Grow w0 V V' → WR P w0 V' r.2.2 W' → FrR V' r.2.1 a' → ExR V' r.1 ex → Q ex a' W') : (Code.region id ops true).wpIn (Fk ro) 0 P Q a W := by
  unfold cRegion at hc
  split at hc
  · cases hc
  · rename_i os hos
    simp only [Bool.not_true, Bool.false_eq_true, if_false] at hc
    split at hc
    · rename_i hchk
      cases hc
      simp only [Bool.and_eq_true] at hchk
      obtain ⟨⟨hm, hd⟩, _⟩ := hchk
      have hD := drawOk_sound hd
      obtain ⟨ws, ks, h1, h1', h2, h2', h3⟩ := apre_steps _ _ _ _ _ h0
      simp only [List.nil_append] at h2'
      subst h2'
      have hz : ∀ j, (Array.replicate ops.size false).getD j false = false := fun j => by
        simp [Array.getElem?_replicate]
        split <;> rfl
      refine wpIn_region_any hm (draw_pre hcb hos hD (firstTail_le _ _) h1 h1' h2 (fun i o hi => by simpa using h3 i o hi) h ops.size _ V _ a (by simp) ?_ ?_ (fun i _ => hz i) hrd ?_ ?_ ?_ hQ)
      · have := cnt_le ((Array.replicate ops.size false).toList.take (firstTail (befL ops.toList []) ops.size))
        have h5 := firstTail_le (befL ops.toList []) ops.size
        simp only [List.length_take, Array.length_toList, Array.size_replicate] at this
        omega
      · intro j o e ho hj he hb
        simp only [hz] at hj
        cases hj
      · rw [putM_none _ _ _ _ hz]
        exact hF
      · rw [tokM_congr ks _ (fun _ => false) 0 (fun j sz _ => hz _), tokM_none]
        exact hW.drew.deads _
      · intro id _ hge
        exact hW.fresh id hge
    · cases hc
end
end Go.Am
