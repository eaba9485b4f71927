/- THE OPERATIONS THAT LEAVE MEMORY AS IT IS, the last ones, and all together: the model does what the interpreter says. No condition. -/
import Derived.Test.YtjlgpfolnhilfaaAmOps2
set_option linter.unusedSimpArgs false
set_option linter.unusedVariables false
set_option linter.unusedSectionVars false
namespace Go.Am
open Go Go.RowKit
set_option linter.unusedSectionVars false
variable [Thaw]
variable {P : Program} {w0 : World} {V : View} {H : Heap} {W : World} {tm : List AV} {a : Act}

theorem op_un (hT : RepL V tm a.tmps.toList) {o : Oper} {op : UnOp} {t : TypeId} {x : Operand} {v : AV} {ao : AOp} (ho : o.op = .unOp op t x) (hc : cOp P o = some ao) (h : aval ao tm H = some v) : Same P V W a o v := by
  simp only [cOp, ho] at hc
  obtain ⟨x', hx, rfl⟩ := Option.map_eq_some_iff.1 hc
  have hr := rep_ev hT hx
  simp only [aval, unV] at h
  split at h
  · rename_i b e
    cases h
    rw [e] at hr
    exact same_of (S := Op.unary .not (a.eval x)) (by simp [execOp, ho]) (by rw [rep_bool hr]; rfl) (.bool _)
  · rename_i k n e
    cases h
    rw [e] at hr
    exact same_of (S := Op.unary .neg (a.eval x)) (by simp [execOp, ho]) (by rw [rep_int hr]; rfl) (.int _ _)
  · rename_i k n e
    rw [e] at hr
    obtain ⟨u, hu, hru⟩ := bits_sound (P := P) (W := W) (V := V) h
    exact same_of (S := Op.unary .xor (a.eval x)) (by simp [execOp, ho]) (by rw [rep_int hr]; exact hu) hru
  · cases h
theorem op_conv (hT : RepL V tm a.tmps.toList) {o : Oper} {s d : TypeId} {x : Operand} {v : AV} {ao : AOp} (ho : o.op = .convert s d x) (hc : cOp P o = some ao) (h : aval ao tm H = some v) : Same P V W a o v := by
  simp only [cOp, ho] at hc
  split at hc
  · rename_i k0 k x' h1 h2 hx
    cases hc
    have hr := rep_ev hT hx
    simp only [aval] at h
    split at h
    · rename_i k1 q n e1 e2
      cases e1
      cases h
      rw [e2] at hr
      exact same_of (S := convert s d (a.eval x)) (by simp [execOp, ho]) (by rw [rep_int hr]; simp [convert, run_underlying h1, run_underlying h2, Conv.intToInt]) (.int _ _)
    · rename_i e1 e2; cases e1
    · cases h
  · rename_i x' h1 h2 hx
    cases hc
    have hr := rep_ev hT hx
    simp only [aval] at h
    split at h
    · rename_i e1 e2; cases e1
    · rename_i m e1 e
      cases h
      rw [e] at hr
      exact same_of (S := convert s d (a.eval x)) (by simp [execOp, ho]) (by rw [rep_str hr]; simp [convert, run_underlying h1, run_underlying h2]) (.str m)
    · cases h
  · cases hc
theorem op_mkif (hT : RepL V tm a.tmps.toList) {o : Oper} {t : TypeId} {x : Operand} {v : AV} {ao : AOp} (ho : o.op = .makeInterface t x) (hc : cOp P o = some ao) (h : aval ao tm H = some v) : Same P V W a o v := by
  simp only [cOp, ho] at hc
  split at hc
  · cases hc
  · rename_i d hn hu
    obtain ⟨x', hx, rfl⟩ := Option.map_eq_some_iff.1 hc
    simp only [aval, Option.some.injEq] at h
    subst h
    have hcon : P.concrete t = true := by
      unfold Program.concrete
      split
      · rename_i ms e; rw [hu] at e; cases e; exact (hn ms rfl).elim
      · rename_i e; rw [hu] at e; cases e
      · rfl
    exact same_of (S := Instr.makeInterface t (a.eval x)) (by simp [execOp, ho]) (run_makeInterface W t _ hcon) (.iface (rep_ev hT hx))
  · cases hc
theorem op_mkfn (hT : RepL V tm a.tmps.toList) {o : Oper} {fn : Fn} {fs cs : Array Operand} {v : AV} {ao : AOp} (ho : o.op = .makeFunc fn fs cs) (hc : cOp P o = some ao) (h : aval ao tm H = some v) : Same P V W a o v := by
  cases fn with
  | func f =>
    simp only [cOp, ho] at hc
    split at hc
    · rename_i hs
      obtain ⟨xs, hx, rfl⟩ := Option.map_eq_some_iff.1 hc
      simp only [aval, Option.some.injEq] at h
      subst h
      have he : fs.map a.eval = #[] := by simp [Array.eq_empty_of_size_eq_zero hs]
      refine same_of (S := Instr.makeFunc (.func f) (fs.map a.eval) (cs.map a.eval)) (u := .func (.func f) #[] (cs.map a.eval)) (by simp [execOp, ho]) (by rw [he]; rfl) ?_
      have e2 : (cs.map a.eval) = ((cs.map a.eval).toList).toArray := (Array.toArray_toList).symm
      rw [e2]
      exact Rep.fn' (rep_evs hT hx)
    · cases hc
  | _ => simp [cOp, ho] at hc
theorem op_tassert (hT : RepL V tm a.tmps.toList) {o : Oper} {s t : TypeId} {x : Operand} {ok : Bool} {v : AV} {ao : AOp} (ho : o.op = .typeAssert x s t ok) (hc : cOp P o = some ao) (h : aval ao tm H = some v) : Same P V W a o v := by
  simp only [cOp, ho] at hc
  split at hc
  · cases hc
  · rename_i d x' hn hu hx
    obtain ⟨z, hz, rfl⟩ := Option.map_eq_some_iff.1 hc
    obtain ⟨zv, i, hi, hzero, hsz, hrz, hrun⟩ := zeroOf_run (V := V) hz
    have hr := rep_ev hT hx
    have hdn : ∀ ms, d ≠ .interface ms := fun ms e => hn ms e
    have hzr := hrun W
    have hold : ∀ q u, a.eval x = .iface q u → (Instr.typeAssert (a.eval x) s t ok).run P W =
        if q = t then .ok (if ok then .tuple #[u, .bool true] else u) W else if ok then .ok (.tuple #[zv, .bool false]) W else (Instr.typeAssert (a.eval x) s t ok).run P W := by
      intro q u hb
      by_cases hq : q = t
      · rw [if_pos hq, hb]
        cases d <;> first | exact absurd rfl (hdn _) | simp [Instr.typeAssert, run_underlying hu, hq]
      · rw [if_neg hq]
        by_cases hok : ok = true
        · rw [if_pos hok, hb]
          cases d <;> first | exact absurd rfl (hdn _) | simp [Instr.typeAssert, run_underlying hu, hq, hok, hzr]
        · rw [if_neg hok]
    have hnil : a.eval x = .nilIface → ok = true → (Instr.typeAssert (a.eval x) s t ok).run P W = .ok (.tuple #[zv, .bool false]) W := by
      intro hb hok
      rw [hb]
      cases d <;> first | exact absurd rfl (hdn _) | simp [Instr.typeAssert, run_underlying hu, hok, hzr]
    have ftup : Rep V (.tup [z, .bool false]) (.tuple #[zv, .bool false]) := Rep.tup' (.cons hrz (.cons (.bool _) (.nil V)))
    simp only [aval] at h
    split at h
    · rename_i q y e
      rw [e] at hr
      generalize hb : a.eval x = u at hr
      cases hr with
      | iface hy =>
        rename_i u'
        split at h
        · rename_i hq
          cases h
          refine same_of (S := Instr.typeAssert (a.eval x) s t ok) (u := if ok then .tuple #[u', .bool true] else u') (by simp [execOp, ho]) (by rw [hold q u' hb, if_pos hq]) ?_
          cases ok
          · exact hy
          · exact Rep.tup' (.cons hy (.cons (.bool _) (.nil V)))
        · rename_i hq
          split at h
          · rename_i hok
            cases h
            exact same_of (S := Instr.typeAssert (a.eval x) s t ok) (by simp [execOp, ho]) (by rw [hold q u' hb, if_neg hq, if_pos hok]) ftup
          · cases h
    · rename_i e
      rw [e] at hr
      generalize hb : a.eval x = u at hr
      cases hr
      split at h
      · rename_i hok
        cases h
        exact same_of (S := Instr.typeAssert (a.eval x) s t ok) (by simp [execOp, ho]) (hnil hb hok) ftup
      · cases h
    · cases h
  · cases hc
theorem op_ext (hT : RepL V tm a.tmps.toList) {o : Oper} {x : Operand} {i : Nat} {v : AV} {ao : AOp} (ho : o.op = .extract x i) (hc : cOp P o = some ao) (h : aval ao tm H = some v) : Same P V W a o v := by
  simp only [cOp, ho] at hc
  obtain ⟨x', hx, rfl⟩ := Option.map_eq_some_iff.1 hc
  have hr := rep_ev hT hx
  simp only [aval] at h
  split at h
  · rename_i vs e
    rw [e] at hr
    obtain ⟨us, hu, hrl⟩ := rep_tup hr
    obtain ⟨u, hui, hru⟩ := hrl.get h
    have hui' : us[i]? = some u := by simpa using hui
    exact same_of (S := Instr.extract (a.eval x) i) (by simp [execOp, ho]) (by rw [hu]; simp [Instr.extract, hui']) hru
  · cases h
theorem op_nilck (hT : RepL V tm a.tmps.toList) {o : Oper} {x : Operand} {v : AV} {ao : AOp} (ho : o.op = .nilCheck x) (hc : cOp P o = some ao) (h : aval ao tm H = some v) : Same P V W a o v := by
  simp only [cOp, ho] at hc
  obtain ⟨x', hx, rfl⟩ := Option.map_eq_some_iff.1 hc
  have hr := rep_ev hT hx
  simp only [aval] at h
  split at h
  all_goals first
    | (cases h; done)
    | (rename_i e; rw [e] at hr; cases h; refine ⟨a.eval x, ?_, hr⟩; generalize a.eval x = u at hr; cases hr; simp [execOp, ho]; done)
    | (rename_i e; rw [e] at hr; cases h; refine ⟨a.eval x, ?_, hr⟩; generalize hu : a.eval x = u at hr; cases hr; simp [execOp, ho, hu]; done)
theorem asNat_int {v : AV} {n : Nat} (h : asNat v = some n) {u : Value} (hr : Rep V v u) : ∃ k i, u = .int k i ∧ 0 ≤ i ∧ i.toNat = n := by
  unfold asNat at h
  split at h
  · split at h
    · cases h
      exact ⟨_, _, rep_int hr, by assumption, rfl⟩
    · cases h
  · cases h
theorem cOpt_some {x : Option Operand} {x' : Option X} (h : cOpt x = some x') : (x = none ∧ x' = none) ∨ ∃ y y', x = some y ∧ x' = some y' ∧ cX y = some y' := by
  unfold cOpt at h
  split at h
  · cases h; exact .inl ⟨rfl, rfl⟩
  · obtain ⟨y', hy, rfl⟩ := Option.map_eq_some_iff.1 h
    exact .inr ⟨_, _, rfl, rfl, hy⟩
/-- The bounds of a slice expression of two indexes, both in range. -/
theorem bounds_run (hT : RepL V tm a.tmps.toList) {lo hi : Option Operand} {lo' hi' : Option X} (h1 : cOpt lo = some lo') (h2 : cOpt hi = some hi') {len cap l hh : Nat} (hl : bound tm lo' 0 = some l) (hu : bound tm hi' len = some hh)
    (hle : l ≤ hh) (hc : hh ≤ cap) (isS : Bool) : (Instr.sliceBounds isS len cap (lo.map a.eval) (hi.map a.eval) none).run P W = .ok (l, hh, cap) W := by
  have hi1 : ∀ code, (match hi.map a.eval with | some v => Instr.sliceBound v cap code | none => (pure len : Sem Nat)).run P W = .ok hh W := by
    intro code
    rcases cOpt_some h2 with ⟨rfl, rfl⟩ | ⟨y, y', rfl, rfl, hy⟩
    · simp only [bound, Option.some.injEq] at hu
      subst hu
      rfl
    · obtain ⟨k, i, he, h0, hn⟩ := asNat_int hu (rep_ev hT hy)
      simp only [Option.map_some, he, Instr.sliceBound, asIntOf, pure_bind]
      have : 0 ≤ i ∧ i ≤ (cap : Int) := ⟨h0, by omega⟩
      simp [this, hn]
  have lo1 : ∀ code, (match lo.map a.eval with | some v => Instr.sliceBound v hh code | none => (pure 0 : Sem Nat)).run P W = .ok l W := by
    intro code
    rcases cOpt_some h1 with ⟨rfl, rfl⟩ | ⟨y, y', rfl, rfl, hy⟩
    · simp only [bound, Option.some.injEq] at hl
      subst hl
      rfl
    · obtain ⟨k, i, he, h0, hn⟩ := asNat_int hl (rep_ev hT hy)
      simp only [Option.map_some, he, Instr.sliceBound, asIntOf, pure_bind]
      have : 0 ≤ i ∧ i ≤ (hh : Int) := ⟨h0, by omega⟩
      simp [this, hn]
  unfold Instr.sliceBounds
  cases hh' : hi.map a.eval with
  | none =>
    have t1 := hi1 .index
    rw [hh'] at t1
    simp only [Sem.run_pure] at t1
    cases t1
    cases hl' : lo.map a.eval with
    | none =>
      have t2 := lo1 .index
      rw [hl'] at t2
      simp only [Sem.run_pure] at t2
      cases t2
      rfl
    | some v =>
      have t2 := lo1 (if (none : Option Value).isSome then .slice3C else .sliceB)
      rw [hl'] at t2
      simp only [Sem.run_bind, Sem.run_pure, Result.andThen_ok] at t2 ⊢
      rw [t2]
      rfl
  | some v =>
    have t1 := hi1 (if isS then .sliceAcap else .sliceAlen)
    rw [hh'] at t1
    cases hl' : lo.map a.eval with
    | none =>
      have t2 := lo1 .index
      rw [hl'] at t2
      simp only [Sem.run_pure] at t2
      cases t2
      simp only [Sem.run_bind, Sem.run_pure, Result.andThen_ok] at t1 ⊢
      rw [t1]
      rfl
    | some u =>
      have t2 := lo1 (if (none : Option Value).isSome then .slice3C else .sliceB)
      rw [hl'] at t2
      simp only [Sem.run_bind, Sem.run_pure, Result.andThen_ok] at t1 t2 ⊢
      rw [t1]
      simp only [Result.andThen_ok]
      rw [t2]
      rfl

theorem slice_seen {sz b o cap l hh : Nat} {cs : List AV} {f : Nat → Value} (h2 : cs.length ≤ cap * sz) (hi : ∀ i, i < cs.length → V.imm ⟨b, o + i, none⟩ = some (f i))
    (h : ∀ (i : Nat) (x : AV), cs[i]? = some x → Rep V x (f i)) (hl : l ≤ hh) (hc : hh * sz ≤ cs.length) (hcap : hh ≤ cap) :
    Rep V (.sl sz (hh - l) (cs.drop (l * sz)) .ro) (.slice (some ⟨b, o + l * sz, none⟩) (hh - l) (cap - l)) := by
  refine .sl (fun i => f (l * sz + i)) ?_ ?_ (by omega) (fun i hlt => ?_) (fun i x hx => ?_) (.inl rfl)
  · rw [List.length_drop, Nat.sub_mul]; omega
  · rw [List.length_drop, Nat.sub_mul]; omega
  · have := hi (l * sz + i) (by rw [List.length_drop] at hlt; omega)
    rwa [← Nat.add_assoc] at this
  · rw [List.getElem?_drop] at hx
    exact h _ x hx
theorem op_slice (hT : RepL V tm a.tmps.toList) {o : Oper} {t : TypeId} {x : Operand} {lo hi mx : Option Operand} {v : AV} {ao : AOp} (ho : o.op = .slice t x lo hi mx) (hc : cOp P o = some ao) (h : aval ao tm H = some v) : Same P V W a o v := by
  cases mx with
  | some m => simp [cOp, ho] at hc
  | none =>
  simp only [cOp, ho] at hc
  split at hc
  · rename_i e x' lo' hi' hu hx hlo hhi
    obtain ⟨s, hs, rfl⟩ := Option.map_eq_some_iff.1 hc
    have hr := rep_ev hT hx
    have run : ∀ ad n cap l hh, a.eval x = .slice ad n cap → bound tm lo' 0 = some l → bound tm hi' n = some hh → l ≤ hh → hh ≤ cap →
        (Instr.sliceAt t (a.eval x) (lo.map a.eval) (hi.map a.eval) none).run P W = .ok (.slice (if cap = l then ad else ad.map (·.add (l * s))) (hh - l) (cap - l)) W := by
      intro ad n cap l hh hb h1 h2 h3 h4
      rw [hb]
      simp only [Instr.sliceAt, Instr.slice, Sem.run_bind, run_underlying hu, Result.andThen_ok, bounds_run hT hlo hhi h1 h2 h3 h4 true, szOf_run hs, Sem.run_pure]
    simp only [aval] at h
    split at h
    · rename_i sz' n cs tk he
      rw [he] at hr
      split at h
      · rename_i l hh h1 h2
        split at h
        · rename_i hcnd
          obtain ⟨rfl, hpos, hle, hlen⟩ := hcnd
          cases h
          rcases rep_sl hr with ⟨hb, rfl, rfl⟩ | ⟨a0, hb, rfl, rfl⟩ | ⟨b, off, cap, f, hb, k1, k2, k3, k4, k5⟩
          · -- nil
            have h0 : hh = 0 := by
              rcases Nat.eq_zero_or_pos hh with h0 | h0
              · exact h0
              · have : hh * s ≥ 1 * 1 := Nat.mul_le_mul h0 hpos
                simp at hlen
                omega
            subst h0
            obtain rfl : l = 0 := by omega
            refine same_of (S := Instr.sliceAt t (a.eval x) (lo.map a.eval) (hi.map a.eval) none) (u := .slice none 0 0) (by simp [execOp, ho]) (by rw [run _ 0 0 0 0 hb h1 h2 (Nat.le_refl _) (Nat.le_refl _)]; simp) ?_
            rw [if_pos ⟨rfl, rfl⟩, ← hb]
            exact hr
          · -- none, somewhere
            have h0 : hh = 0 := by
              rcases Nat.eq_zero_or_pos hh with h0 | h0
              · exact h0
              · have : hh * s ≥ 1 * 1 := Nat.mul_le_mul h0 hpos
                simp at hlen
                omega
            subst h0
            obtain rfl : l = 0 := by omega
            refine same_of (S := Instr.sliceAt t (a.eval x) (lo.map a.eval) (hi.map a.eval) none) (u := .slice (some a0) 0 0) (by simp [execOp, ho]) (by rw [run _ 0 0 0 0 hb h1 h2 (Nat.le_refl _) (Nat.le_refl _)]; simp) ?_
            rw [if_pos ⟨rfl, rfl⟩, ← hb]
            exact hr
          · have hcap : hh ≤ cap := by
              rcases Nat.lt_or_ge cap hh with hlt | hge
              · have : (cap + 1) * s ≤ hh * s := Nat.mul_le_mul_right _ hlt
                rw [Nat.add_mul] at this
                omega
              · exact hge
            have hrun := run _ n cap l hh hb h1 h2 hle hcap
            by_cases hz : l = 0 ∧ hh = n
            · obtain ⟨rfl, rfl⟩ := hz
              rw [if_pos ⟨rfl, rfl⟩]
              refine same_of (S := Instr.sliceAt t (a.eval x) (lo.map a.eval) (hi.map a.eval) none) (u := .slice (some ⟨b, off, none⟩) hh cap) (by simp [execOp, ho]) ?_ (hb ▸ hr)
              rw [hrun]
              split <;> simp [add_none]
            · rw [if_neg hz]
              by_cases hcl : cap = l
              · subst hcl
                obtain rfl : hh = cap := by omega
                refine same_of (S := Instr.sliceAt t (a.eval x) (lo.map a.eval) (hi.map a.eval) none) (u := .slice (some ⟨b, off, none⟩) 0 0) (by simp [execOp, ho]) (by rw [hrun]; simp) ?_
                have hnil : cs.drop (hh * s) = [] := List.drop_eq_nil_of_le (by omega)
                rw [hnil, Nat.sub_self]
                exact .sl (fun _ => default) (by simp) (by simp) (Nat.le_refl _) (fun i hi => by simp at hi) (fun i x hx => by simp at hx) (.inl rfl)
              · refine same_of (S := Instr.sliceAt t (a.eval x) (lo.map a.eval) (hi.map a.eval) none) (u := .slice (some ⟨b, off + l * s, none⟩) (hh - l) (cap - l)) (by simp [execOp, ho]) (by rw [hrun, if_neg hcl]; simp [add_none]) ?_
                exact slice_seen k2 k4 k5 hle hlen hcap
        · cases h
      · cases h
    · rename_i sz' id off n he
      rw [he] at hr
      split at h
      · rename_i l hh h1 h2
        split at h
        · rename_i hcnd
          obtain ⟨rfl, hpos, hle, hlen⟩ := hcnd
          cases h
          generalize hb : a.eval x = u at hr
          cases hr with
          | msl hl hnc =>
            rename_i b cap
            have hrun := run _ n cap l hh hb h1 h2 hle (by omega)
            by_cases hlh : l = hh
            · subst hlh
              rw [if_pos rfl]
              refine same_of (S := Instr.sliceAt t (a.eval x) (lo.map a.eval) (hi.map a.eval) none) (by simp [execOp, ho]) hrun ?_
              rw [Nat.sub_self]
              split
              · exact .sl (fun _ => default) (by simp) (by simp) (by omega) (fun i hi => by simp at hi) (fun i x hx => by simp at hx) (.inl rfl)
              · simp only [Option.map_some, add_none]
                exact .sl (fun _ => default) (by simp) (by simp) (by omega) (fun i hi => by simp at hi) (fun i x hx => by simp at hx) (.inl rfl)
            · rw [if_neg hlh]
              refine same_of (S := Instr.sliceAt t (a.eval x) (lo.map a.eval) (hi.map a.eval) none) (u := .slice (some ⟨b, off + l * s, none⟩) (hh - l) (cap - l)) (by simp [execOp, ho]) (by rw [hrun, if_neg (by omega)]; simp [add_none]) ?_
              exact .msl hl (by omega)
        · cases h
      · cases h
    · cases h
  · rename_i x' lo' hi' hu hx hlo hhi
    cases hc
    have hr := rep_ev hT hx
    simp only [aval] at h
    split at h
    · rename_i s he
      rw [he] at hr
      split at h
      · rename_i l hh h1 h2
        split at h
        · rename_i hcnd
          cases h
          refine same_of (S := Instr.sliceAt t (a.eval x) (lo.map a.eval) (hi.map a.eval) none) (u := .string (s.extract l hh)) (by simp [execOp, ho]) ?_ (.str _)
          rw [rep_str hr]
          simp only [Instr.sliceAt, Instr.slice, Sem.run_bind, run_underlying hu, Result.andThen_ok, Option.isSome_none, Bool.false_eq_true, if_false, bounds_run hT hlo hhi h1 h2 hcnd.1 hcnd.2 false, Sem.run_pure]
        · cases h
      · cases h
    · cases h
  · cases hc
theorem op_len (hW : WR P w0 V H W) (hT : RepL V tm a.tmps.toList) {o : Oper} {c : Call} {v : AV} {ao : AOp} (ho : o.op = .call c) (hb : c.callee = .builtin .len) (hc : cOp P o = some ao) (h : aval ao tm H = some v) : Same P V W a o v := by
  obtain ⟨callee, args, tys⟩ := c
  simp only at hb
  subst hb
  simp only [cOp, ho, cCall] at hc
  split at hc
  · rename_i x t e1 e2
    have a1 : args = #[x] := Array.ext' (by simpa using e1)
    have a2 : tys = #[t] := Array.ext' (by simpa using e2)
    subst a1 a2
    have fin : ∀ u, (Builtin.len_ #[t] o.type #[a.eval x]).run P W = .ok u W → Rep V v u → Same P V W a o v := fun u h1 h2 =>
      ⟨u, by simp [execOp, ho, resolve, invoke, builtin, h1], h2⟩
    split at hc
    · rename_i n e x' hu hx
      cases hc
      simp only [aval, X.ev, Option.some.injEq] at h
      subst h
      exact fin (.int .i64 n) (by simp [Builtin.len_, run_underlying hu, goInt]) (.int _ _)
    · rename_i x' hu hx
      cases hc
      have hr := rep_ev hT hx
      simp only [aval] at h
      split at h
      case h_3 =>
        rename_i s e1 e2
        cases h
        rw [e2] at hr
        exact fin (.int .i64 s.size) (by rw [rep_str hr]; simp [Builtin.len_, run_underlying hu, goInt]) (.int _ _)
      all_goals (first | (cases h; done) | (rename_i e1 e2; cases e1; done) | (rename_i e1; cases e1; done) | (rename_i e1 _; cases e1; done))
    · rename_i e x' hu hx
      cases hc
      have hr := rep_ev hT hx
      simp only [aval] at h
      split at h
      case h_1 =>
        rename_i sz n cs tk e1 e2
        cases h
        rw [e2] at hr
        refine fin (.int .i64 n) ?_ (.int _ _)
        rcases rep_sl hr with ⟨hb, rfl, _⟩ | ⟨a0, hb, rfl, _⟩ | ⟨b, off, cap, f, hb, _⟩ <;> rw [hb] <;> simp [Builtin.len_, run_underlying hu, goInt]
      case h_2 =>
        rename_i sz id off n e1 e2
        cases h
        rw [e2] at hr
        generalize hb : a.eval x = u at hr
        cases hr
        exact fin (.int .i64 n) (by rw [hb]; simp [Builtin.len_, run_underlying hu, goInt]) (.int _ _)
      all_goals (first | (cases h; done) | (rename_i e1 e2; cases e1; done) | (rename_i e1; cases e1; done) | (rename_i e1 _; cases e1; done))
    · rename_i k e x' hu hx
      cases hc
      have hr := rep_ev hT hx
      simp only [aval] at h
      split at h
      case h_4 =>
        rename_i e1 e2
        cases h
        rw [e2] at hr
        generalize hb : a.eval x = u at hr
        cases hr
        exact fin (.int .i64 0) (by rw [hb]; simp [Builtin.len_, run_underlying hu, goInt]) (.int _ _)
      case h_5 =>
        rename_i id e1 e2
        rw [e2] at hr
        split at h
        · rename_i es hes
          cases h
          obtain ⟨b, hb, hl⟩ := rep_mp hr
          obtain ⟨b', ents, clk, hb', _, hh, hk, _⟩ := hW.obj id _ hes
          rw [hl] at hb'
          cases hb'
          have hlen : es.length = ents.size := by have := hk.1; simpa using this
          have hg : (getObj b).run P W = .ok (.map ents clk) W := by simp [getObj, Sem.run, hh]
          refine fin (.int .i64 es.length) ?_ (.int _ _)
          rw [hb, hlen]
          simp [Builtin.len_, run_underlying hu, goInt, hg]
        · cases h
      all_goals (first | (cases h; done) | (rename_i e1 e2; cases e1; done) | (rename_i e1; cases e1; done) | (rename_i e1 _; cases e1; done))
    · cases hc
  · cases hc
theorem getObj_map {b : Nat} {ents : Array MapEntry} {clk : Nat} (h : W.heap[b]? = some (.map ents clk)) : (getObj b).run P W = .ok (.map ents clk) W := by simp [getObj, Sem.run, h]
theorem sameNow_sound {t : TypeId} {d : TypeDesc} (hu : P.underlying t = some d) {kk : Nat} (hk : kindOf P t = some kk) {x y : AV} {u u' : Value} (hx : Rep V x u) (hy : Rep V y u') {b : Bool} (h : cellEq kk x y = some b) :
    Instr.sameNow d u u' = some b := by
  unfold cellEq at h
  split at h
  · split at h
    · rename_i hc
      cases h
      rw [rep_int hx, rep_int hy]
      rcases kindOf_und hk with ⟨_, q, hu'⟩ | ⟨h0, _⟩ | ⟨h0, _⟩
      · rw [hu] at hu'; cases hu'; simp [Instr.sameNow, hc]
      · cases h0
      · cases h0
    · cases h
  · cases h
    rw [rep_bool hx, rep_bool hy]
    rcases kindOf_und hk with ⟨h0, _⟩ | ⟨_, hu'⟩ | ⟨h0, _⟩
    · cases h0
    · rw [hu] at hu'; cases hu'; simp [Instr.sameNow]
    · cases h0
  · cases h
    rw [rep_str hx, rep_str hy]
    rcases kindOf_und hk with ⟨h0, _⟩ | ⟨h0, _⟩ | ⟨_, hu'⟩
    · cases h0
    · cases h0
    · rw [hu] at hu'; cases hu'; simp [Instr.sameNow]
  · cases h
theorem checkKey_run {t : TypeId} {kk : Nat} (hk : kindOf P t = some kk) (e : Bool) (u : Value) : (Instr.checkKey e 10000 t u).run P W = .ok () W := by
  unfold Instr.checkKey
  rcases kindOf_und hk with ⟨_, q, hu⟩ | ⟨_, hu⟩ | ⟨_, hu⟩ <;> simp only [Sem.run_bind, run_underlying hu, Result.andThen_ok, Sem.run_pure]
def FoundR (V : View) : Option (Nat × AV) → Option (Nat × Value) → Prop
  | none, none => True
  | some (j, y), some (j', v) => j = j' ∧ Rep V y v
  | _, _ => False
theorem findNow_sound {t : TypeId} {d : TypeDesc} (hu : P.underlying t = some d) {kk : Nat} (hk : kindOf P t = some kk) {x : AV} {u : Value} (hx : Rep V x u) : ∀ (es : List (AV × AV)) (ents : List MapEntry) (i : Nat) (r : Option (Nat × AV)),
    RepL V (es.map (·.1)) (ents.map (·.key)) → RepL V (es.map (·.2)) (ents.map (·.val)) → findA kk x es i = some r →
    ∃ r', Instr.findNow d u ents i = some r' ∧ FoundR V r r'
  | [], ents, i, r, h1, _, h => by
    have : ents = [] := by have := h1.1; simp at this; exact List.eq_nil_of_length_eq_zero this.symm
    subst this
    simp only [findA, Option.some.injEq] at h
    subst h
    exact ⟨none, rfl, trivial⟩
  | e :: es, [], i, r, h1, _, h => by have := h1.1; simp at this
  | e :: es, m :: ents, i, r, h1, h2, h => by
    simp only [findA] at h
    cases hce : cellEq kk x e.1 with
    | none => simp [hce] at h
    | some b =>
      have hs := sameNow_sound hu hk hx h1.head hce
      cases b with
      | true =>
        simp only [hce, Option.some.injEq] at h
        subst h
        exact ⟨some (i, m.val), by simp [Instr.findNow, hs], rfl, h2.head⟩
      | false =>
        simp only [hce] at h
        obtain ⟨r', hr', hm⟩ := findNow_sound hu hk hx es ents (i + 1) r h1.tail h2.tail h
        exact ⟨r', by simp [Instr.findNow, hs, hr'], hm⟩
theorem findKey_sound {t : TypeId} {kk : Nat} (hk : kindOf P t = some kk) {x : AV} {u : Value} (hx : Rep V x u) {es : List (AV × AV)} {ents : List MapEntry} {r : Option (Nat × AV)}
    (h1 : RepL V (es.map (·.1)) (ents.map (·.key))) (h2 : RepL V (es.map (·.2)) (ents.map (·.val))) (h : findA kk x es 0 = some r) :
    ∃ r', (Instr.findKey t u ents).run P W = .ok r' W ∧ FoundR V r r' := by
  have hd : ∃ d, P.underlying t = some d := by rcases kindOf_und hk with ⟨_, q, hu⟩ | ⟨_, hu⟩ | ⟨_, hu⟩ <;> exact ⟨_, hu⟩
  obtain ⟨d, hu⟩ := hd
  obtain ⟨r', hr', hm⟩ := findNow_sound hu hk hx es ents 0 r h1 h2 h
  exact ⟨r', by simp only [Instr.findKey, Sem.run_bind, run_underlying hu, Result.andThen_ok, hr', Sem.run_pure], hm⟩
theorem op_lookup (hW : WR P w0 V H W) (hT : RepL V tm a.tmps.toList) {o : Oper} {t : TypeId} {x i : Operand} {ok : Bool} {v : AV} {ao : AOp} (ho : o.op = .lookup t x i ok) (hc : cOp P o = some ao) (h : aval ao tm H = some v) : Same P V W a o v := by
  simp only [cOp, ho] at hc
  split at hc
  · rename_i k e x' i' hu hx hi
    split at hc
    · rename_i kk z hkk hz
      cases hc
      obtain ⟨zv, inf, hinf, hzero, hsz, hrz, hrun⟩ := zeroOf_run (V := V) hz
      have hzr := hrun W
      have hr := rep_ev hT hx
      have hri := rep_ev hT hi
      have hck := fun e => checkKey_run (W := W) hkk e (a.eval i)
      simp only [aval] at h
      split at h
      · rename_i he
        rw [he] at hr
        have hb : a.eval x = .map none := by generalize a.eval x = u at hr; cases hr; rfl
        split at h
        · cases h
          refine same_of (S := Instr.lookup t (a.eval x) (a.eval i) ok) (u := if ok then .tuple #[zv, .bool false] else zv) (by simp [execOp, ho]) ?_ ?_
          · have hf := findKey_sound (V := V) (W := W) hkk hri (es := []) (ents := []) (r := none) (RepL.nil V) (RepL.nil V) rfl
            obtain ⟨r', hf', hm⟩ := hf
            have : r' = none := by
              cases r' with
              | none => rfl
              | some r' => exact hm.elim
            subst this
            rw [hb]
            simp only [Instr.lookup, Sem.run_bind, run_underlying hu, Result.andThen_ok, Sem.run_pure, hck, hf', hzr]
          · cases ok
            · exact hrz
            · exact Rep.tup' (.cons hrz (.cons (.bool _) (.nil V)))
        · cases h
      · rename_i id he
        rw [he] at hr
        obtain ⟨b, hb, hl⟩ := rep_mp hr
        split at h
        · rename_i es hes
          obtain ⟨b', ents, clk, hb', _, hh, hk1, hk2⟩ := hW.obj id _ hes
          rw [hl] at hb'
          cases hb'
          have hg := getObj_map (P := P) hh
          split at h
          · rename_i v' e1 e2
            cases h
            obtain ⟨r', hf', hm⟩ := findKey_sound (W := W) hkk hri hk1 hk2 e2
            cases r' with
            | none => exact hm.elim
            | some r' =>
              obtain ⟨j', vv⟩ := r'
              refine same_of (S := Instr.lookup t (a.eval x) (a.eval i) ok) (u := if ok then .tuple #[vv, .bool true] else vv) (by simp [execOp, ho]) ?_ ?_
              · rw [hb]
                simp only [Instr.lookup, Sem.run_bind, run_underlying hu, Result.andThen_ok, Sem.run_pure, hg, hck, hf']
              · cases ok
                · exact hm.2
                · exact Rep.tup' (.cons hm.2 (.cons (.bool _) (.nil V)))
          · rename_i e1 e2
            cases h
            obtain ⟨r', hf', hm⟩ := findKey_sound (W := W) hkk hri hk1 hk2 e2
            cases r' with
            | some r' => exact hm.elim
            | none =>
              refine same_of (S := Instr.lookup t (a.eval x) (a.eval i) ok) (u := if ok then .tuple #[zv, .bool false] else zv) (by simp [execOp, ho]) ?_ ?_
              · rw [hb]
                simp only [Instr.lookup, Sem.run_bind, run_underlying hu, Result.andThen_ok, Sem.run_pure, hg, hck, hf', hzr]
              · cases ok
                · exact hrz
                · exact Rep.tup' (.cons hrz (.cons (.bool _) (.nil V)))
          · cases h
        · cases h
      · cases h
    · cases hc
  · cases hc

/-! ### A literal slice -/
theorem repL_len (n : Nat) (l : List AV) : (repL n l).length = n * l.length := by
  induction n with
  | zero => simp [repL]
  | succ n ih => simp [repL, ih, Nat.add_mul, Nat.add_comm]
theorem repL_get (l : List AV) (hl : 0 < l.length) : ∀ (n i : Nat), i < n * l.length → (repL n l)[i]? = l[i % l.length]?
  | 0, i, h => by simp at h
  | n + 1, i, h => by
    simp only [repL]
    by_cases hi : i < l.length
    · rw [List.getElem?_append_left hi, Nat.mod_eq_of_lt hi]
    · rw [List.getElem?_append_right (by omega), repL_get l hl n (i - l.length) (by rw [Nat.add_mul] at h; omega)]
      congr 1
      conv => rhs; rw [show i = (i - l.length) + l.length from by omega, Nat.add_mod_right]
theorem fillL_len : ∀ {ps : List (Nat × Nat × AV)} {cs cs' : List AV}, fillL cs ps = some cs' → cs'.length = cs.length
  | [], cs, cs', h => by simp [fillL] at h; rw [h]
  | (off, sz, v) :: ps, cs, cs', h => by
    simp only [fillL] at h
    split at h
    · rename_i hc
      rw [fillL_len h]
      simp
      omega
    · cases h
/-- A view with a new block of cells seen. -/
def View.see (V : View) (b : Nat) (vs : Array Value) : View := { V with imm := fun p => if p.block = b ∧ p.spot = none then vs[p.off]? else V.imm p }
theorem stp_see {V : View} {W : World} (hlt : ∀ p v, V.imm p = some v → p.block < W.heap.size) (vs : Array Value) (t : TypeId) : Stp V W (V.see W.heap.size vs) (W.alloc (.cells vs t)) none := by
  refine ⟨⟨fun p v hp => ?_, fun i l h => h⟩, World.grownBy_alloc W _ none, fun p v hp => ?_⟩
  · have := hlt p v hp
    show (if p.block = W.heap.size ∧ p.spot = none then vs[p.off]? else V.imm p) = some v
    rw [if_neg (by omega)]
    exact hp
  · change (if p.block = W.heap.size ∧ p.spot = none then vs[p.off]? else V.imm p) = some v at hp
    split at hp
    · rename_i hc; exact .inr (.inl (by omega))
    · exact .inl hp
theorem WR.imm_lt (hW : WR P w0 V H W) : ∀ p v, V.imm p = some v → p.block < W.heap.size := fun p v hp => World.block_lt_of_cell? W p (hW.imm p v hp).1
theorem WR.see (hW : WR P w0 V H W) (vs : Array Value) (t : TypeId) (h1 : ∀ v ∈ vs.toList, v.oneCell' = true) : WR P w0 (V.see W.heap.size vs) H (W.alloc (.cells vs t)) := by
  refine hW.step (stp_see hW.imm_lt vs t) (fun p v hp => ?_) hW.fresh
  change (if p.block = W.heap.size ∧ p.spot = none then vs[p.off]? else V.imm p) = some v at hp
  split at hp
  · rename_i hc
    obtain ⟨b, off, spot⟩ := p
    obtain ⟨rfl, rfl⟩ := hc
    refine ⟨by rw [World.cell?_alloc_new]; exact hp, h1 v ?_⟩
    have := Array.mem_of_getElem? hp
    simpa using this
  · exact ⟨by rw [World.cell?_alloc_lt W _ p (hW.imm_lt p v hp)]; exact (hW.imm p v hp).1, (hW.imm p v hp).2⟩
theorem op_bslice (hW : WR P w0 V H W) (hT : RepL V tm a.tmps.toList) {o : Oper} {t : TypeId} {len : Nat} {ps : Array (Nat × Operand)} {v : AV} {ao : AOp} (ho : o.op = .buildSlice t len ps) (hc : cOp P o = some ao) (h : aval ao tm H = some v) :
    ∃ V' W' u, (execOp a.eval o).run P W = .ok (.value u) W' ∧ Rep V' v u ∧ Stp V W V' W' none ∧ WR P w0 V' H W' ∧ V'.loc = V.loc := by
  simp only [cOp, ho] at hc
  split at hc
  · rename_i e he
    split at hc
    · rename_i s z hs hz
      split at hc
      · rename_i hpos
        obtain ⟨qs, hq, rfl⟩ := Option.map_eq_some_iff.1 hc
        obtain ⟨zv, i, hi, hzero, hsz, hrz, hrun⟩ := zeroOf_run (V := V) hz
        have hu := slElem_und he
        have his : i.size = s := by simp [szOf, hi] at hs; exact hs
        have core : ∀ cs tk, fillL (repL len z.flat) (evP tm qs) = some cs → (allOne cs && cs.length == len * s) = true → (tk = .ro ∨ tk = .e ∨ (tk = .e ∧ len = 0)) → v = .sl s len cs tk →
            ∃ V' W' u, (execOp a.eval o).run P W = .ok (.value u) W' ∧ Rep V' v u ∧ Stp V W V' W' none ∧ WR P w0 V' H W' ∧ V'.loc = V.loc := by
          intro cs tk hf hone htk hv
          subst hv
          simp only [Bool.and_eq_true, beq_iff_eq] at hone
          obtain ⟨h1, h2⟩ := parts_sound (a := a) hT hq
          have hzl : z.flat.length = s := by rw [hrz.flat_size, hsz, his]
          have hbase : RepL V (repL len z.flat) ((Array.range (len * s)).map (zv.cells[· % zv.cells.size]!)).toList := by
            refine ⟨by rw [repL_len, hzl]; simp, fun j x u hx hu => ?_⟩
            have hj : j < len * s := by
              have := (List.getElem?_eq_some_iff.1 hx).1
              rw [repL_len, hzl] at this
              exact this
            rw [repL_get z.flat (by omega) len j (by rw [hzl]; exact hj)] at hx
            have hjs : j % s < zv.cells.size := by rw [hsz, his]; exact Nat.mod_lt _ hpos.1
            have e1 : u = zv.cells[j % s] := by
              simp [hj] at hu
              rw [← hu, hsz, his]
              exact getElem!_pos zv.cells _ hjs
            rw [hzl] at hx
            refine hrz.flat.2 (j % s) x u hx ?_
            rw [e1]
            simp [hjs]
          obtain ⟨vs', hfill, hr⟩ := fill_sound (fun i => some (i * s, s)) _ _ _ _ _ hbase h1 h2 hf
          have hlen : vs'.size = len * s := by have := hr.1; simp at this; omega
          have hrunS : (Instr.buildSlice t len (ps.map fun (i, x) => (i, a.eval x))).run P W = .ok (.slice (some ⟨W.heap.size, 0, none⟩) len len) (W.alloc (.cells vs' e)) := by
            by_cases h0 : len * s = 0
            · have hps : ((Array.range (len * s)).map (zv.cells[· % zv.cells.size]!)) = #[] := by rw [h0, Array.range_zero', Array.map_empty]
              rw [hps] at hfill
              have hfill' : Instr.fill (fun i => some (i * s, s)) #[] (List.map (fun x => (x.fst, a.eval x.snd)) ps.toList) = some vs' := by simpa using hfill
              simp only [Instr.buildSlice, Sem.run_bind, run_underlying hu, Result.andThen_ok, szOf_run hs, h0, if_true]
              simp [Array.range_zero', hfill', newRow]
            · exact run_buildSlice W t e len _ vs' i zv hu hi hzero (by rw [his]; omega) (by rw [his]; exact h0) (by rw [his]; exact hfill)
          have hone' := hr.allOne hone.1
          refine ⟨V.see W.heap.size vs', W.alloc (.cells vs' e), .slice (some ⟨W.heap.size, 0, none⟩) len len, ?_, ?_, stp_see hW.imm_lt vs' e, hW.see vs' e hone', rfl⟩
          · have := val_run hrunS
            simpa [execOp, ho] using this
          · have hr' := hr.mono (stp_see hW.imm_lt vs' e).le
            refine .sl (fun k => vs'[k]!) (by omega) (by omega) (Nat.le_refl _) (fun k hk => ?_) (fun k x hx => ?_) ?_
            · have hk' : k < vs'.size := by omega
              show (if W.heap.size = W.heap.size ∧ (none : Option Nat) = none then vs'[0 + k]? else V.imm ⟨W.heap.size, 0 + k, none⟩) = _
              simp [hk']
            · have hk' : k < vs'.size := by have := (List.getElem?_eq_some_iff.1 hx).1; omega
              refine hr'.2 k x _ hx ?_
              simp [hk']
            · rcases htk with rfl | rfl | ⟨rfl, h0⟩
              · exact .inl rfl
              · exact .inr ⟨rfl, rfl, by omega⟩
              · exact .inr ⟨rfl, rfl, by omega⟩

        split at h
        · simp only [aval] at h
          split at h
          · rename_i cs hf
            split at h
            · rename_i hone
              cases h
              exact core cs .e hf hone (.inr (.inl rfl)) rfl
            · cases h
          · cases h
        · simp only [aval] at h
          split at h
          · rename_i cs hf
            split at h
            · rename_i hone
              cases h
              refine core cs _ hf hone ?_ rfl
              by_cases h0 : len = 0
              · rw [if_pos h0]; exact .inr (.inl rfl)
              · rw [if_neg h0]; exact .inl rfl
            · cases h
          · cases h
      · cases hc
    · cases hc
  · cases hc
theorem op_minmax (hT : RepL V tm a.tmps.toList) {o : Oper} {c : Call} {v : AV} {ao : AOp} {mx : Bool} (ho : o.op = .call c) (hb : c.callee = .builtin (if mx then .max else .min)) (hc : cOp P o = some ao) (h : aval ao tm H = some v) : Same P V W a o v := by
  obtain ⟨callee, args, tys⟩ := c
  simp only at hb
  subst hb
  have key : ∀ x y x' y', args.toList = [x, y] → cX x = some x' → cX y = some y' → aval (.mm mx x' y') tm H = some v → Same P V W a o v := by
    intro x y x' y' e1 hx hy h
    have a1 : args = #[x, y] := Array.ext' (by simpa using e1)
    subst a1
    have hrx := rep_ev hT hx
    have hry := rep_ev hT hy
    simp only [aval] at h
    split at h
    · rename_i k n k' m g1 g2
      cases h
      rw [g1] at hrx
      rw [g2] at hry
      have hx' := rep_int hrx
      have hy' := rep_int hry
      refine ⟨.int k (if mx then (if n < m then m else n) else (if m < n then m else n)), ?_, .int _ _⟩
      cases mx <;> simp [execOp, ho, resolve, invoke, builtin, Builtin.min_, Builtin.max_, Builtin.min2, Builtin.max2, hx', hy']
    · cases h
  cases mx
  · simp only [cOp, ho, cCall, Bool.false_eq_true, if_false] at hc
    split at hc
    · rename_i x y e1
      split at hc
      · rename_i x' y' h1 h2
        cases hc
        exact key x y x' y' e1 h1 h2 h
      · cases hc
    · cases hc
  · simp only [cOp, ho, cCall, if_true] at hc
    split at hc
    · rename_i x y e1
      split at hc
      · rename_i x' y' h1 h2
        cases hc
        exact key x y x' y' e1 h1 h2 h
      · cases hc
    · cases hc

theorem aval_callf {f : FuncId} {xs : List X} : aval (.callf f xs) tm H = none := rfl
/-- ALL TOGETHER: an operation that leaves memory as it is does what the interpreter says; a literal slice's new block is seen from then on. -/
theorem aval_sound (hW : WR P w0 V H W) (hT : RepL V tm a.tmps.toList) {o : Oper} {v : AV} {ao : AOp} (hc : cOp P o = some ao) (h : aval ao tm H = some v) :
    ∃ V' W' u, (execOp a.eval o).run P W = .ok (.value u) W' ∧ Rep V' v u ∧ Stp V W V' W' none ∧ WR P w0 V' H W' ∧ V'.loc = V.loc := by
  have same : Same P V W a o v → ∃ V' W' u, (execOp a.eval o).run P W = .ok (.value u) W' ∧ Rep V' v u ∧ Stp V W V' W' none ∧ WR P w0 V' H W' ∧ V'.loc = V.loc := fun ⟨u, h1, h2⟩ =>
    ⟨V, W, u, h1, h2, .refl V W none, hW, rfl⟩
  have hc0 := hc
  cases ho : o.op with
  | move x =>
    simp only [cOp, ho] at hc
    obtain ⟨x', hx, rfl⟩ := Option.map_eq_some_iff.1 hc
    simp only [aval, Option.some.injEq] at h
    subst h
    exact same (same_ev hT hx (fun ρ => by simp [execOp, ho]))
  | assign x =>
    simp only [cOp, ho] at hc
    obtain ⟨x', hx, rfl⟩ := Option.map_eq_some_iff.1 hc
    simp only [aval, Option.some.injEq] at h
    subst h
    exact same (same_ev hT hx (fun ρ => by simp [execOp, ho]))
  | pick c x y => exact same (op_pick hT ho hc h)
  | build t ps => exact same (op_build hT ho hc h)
  | buildSlice t n ps => exact op_bslice hW hT ho hc h
  | load t x => exact same (op_load hW hT ho hc h)
  | fieldAddr t x k => exact same (op_fld hW hT ho hc h)
  | field t x k => exact same (op_part hT ho hc h)
  | indexAddr t x i => exact same (op_ixa hW hT ho hc h)
  | index t x i => exact same (op_ixv hT ho hc h)
  | binOp op t x y t' => exact same (op_bin hT ho hc h)
  | unOp op t x => exact same (op_un hT ho hc h)
  | convert s d x => exact same (op_conv hT ho hc h)
  | makeInterface t x => exact same (op_mkif hT ho hc h)
  | makeFunc f fs cs => exact same (op_mkfn hT ho hc h)
  | lookup t x i ok => exact same (op_lookup hW hT ho hc h)
  | typeAssert x s t ok => exact same (op_tassert hT ho hc h)
  | extract x i => exact same (op_ext hT ho hc h)
  | slice t x lo hi mx => exact same (op_slice hT ho hc h)
  | nilCheck x => exact same (op_nilck hT ho hc h)
  | call c =>
    obtain ⟨callee, args, tys⟩ := c
    cases callee with
    | value f =>
      exfalso
      simp only [cOp, ho, cCall] at hc
      cases f <;> simp only at hc
      case func f =>
        obtain ⟨xs, _, rfl⟩ := Option.map_eq_some_iff.1 hc
        split at h <;> cases h
      all_goals
        split at hc
        · cases hc; cases h
        · cases hc
    | invoke r m => simp [cOp, ho, cCall] at hc
    | builtin b =>
      cases b <;> first
        | exact same (op_len hW hT ho rfl hc h)
        | exact same (op_minmax (mx := false) hT ho rfl hc h)
        | exact same (op_minmax (mx := true) hT ho rfl hc h)
        | (exfalso; simp [cOp, ho, cCall] at hc; done)
        | (exfalso; simp only [cOp, ho, cCall] at hc; split at hc <;> (try (cases hc; done)) <;> split at hc <;> (try (cases hc; done)) <;> split at hc <;> (try (cases hc; done)) <;> split at hc <;> (try (cases hc; done)) <;> cases hc <;> cases h)
        | (exfalso; simp only [cOp, ho, cCall] at hc; repeat' (split at hc)
           all_goals first | (cases hc; done) | (cases hc; cases h))
        | (exfalso; simp only [cOp, ho, cCall] at hc; split at hc <;> cases hc <;> cases h)
  | alloc t =>
    exfalso
    simp only [cOp, ho] at hc
    split at hc
    · split at hc <;> cases hc; cases h
    · cases hc
  | box t x => exfalso; simp only [cOp, ho] at hc; obtain ⟨x', _, rfl⟩ := Option.map_eq_some_iff.1 hc; cases h
  | store t x y => exfalso; simp only [cOp, ho] at hc; split at hc <;> cases hc; cases h
  | makeMap t r => exfalso; cases r <;> simp [cOp, ho] at hc; subst hc; cases h
  | mapUpdate t m k x =>
    exfalso
    simp only [cOp, ho] at hc
    split at hc
    · obtain ⟨kk, _, rfl⟩ := Option.map_eq_some_iff.1 hc; cases h
    · cases hc
  | insert t m k x =>
    exfalso
    simp only [cOp, ho] at hc
    split at hc
    · obtain ⟨kk, _, rfl⟩ := Option.map_eq_some_iff.1 hc; cases h
    · cases hc
  | defer c =>
    exfalso
    simp only [cOp, ho] at hc
    split at hc
    · split at hc <;> cases hc; cases h
    · cases hc
  | panic x => exfalso; simp only [cOp, ho] at hc; obtain ⟨x', _, rfl⟩ := Option.map_eq_some_iff.1 hc; cases h
  | _ => simp [cOp, ho] at hc
end Go.Am
