/- THE STATES OF A CHANGE, PLAINLY: what is read behind each store, and that a row is settled then, or has one slot that counts for nothing. No condition but those stated. -/
import Derived.Test.YtjlgpfolnhilfaaS13
set_option linter.unusedSimpArgs false
set_option linter.unusedVariables false
set_option linter.unusedSectionVars false
namespace Go.Slots
open Go Go.Am
theorem rising_pw : ∀ l : List (Int × Int), risingL l ↔ (l.map (·.1)).Pairwise (· < ·)
  | [] => by simp [risingL]
  | [x] => by simp [risingL]
  | x :: y :: r => by
    have ih := rising_pw (y :: r)
    rw [risingL, ih]
    show _ ↔ (x.1 :: (y :: r).map (·.1)).Pairwise (· < ·)
    rw [List.pairwise_cons]
    constructor
    · rintro ⟨h1, h2⟩
      refine ⟨?_, h2⟩
      intro a ha
      rw [List.map_cons] at h2 ha
      rw [List.pairwise_cons] at h2
      rcases List.mem_cons.1 ha with rfl | ha
      · exact h1
      · exact Int.lt_trans h1 (h2.1 a ha)
    · rintro ⟨h1, h2⟩
      exact ⟨h1 y.1 (by simp), h2⟩
theorem dist_nd : ∀ (l : List (Int × Int)) (seen : List Int), distL seen l ↔ (l.map (·.2)).Nodup ∧ ∀ x ∈ l, x.2 ∉ seen
  | [], seen => by simp [distL]
  | x :: r, seen => by
    rw [distL, dist_nd r (seen ++ [x.2]), List.map_cons, List.nodup_cons]
    simp only [List.mem_append, List.mem_singleton, not_or, List.mem_map, List.forall_mem_cons]
    constructor
    · rintro ⟨h1, h2, h3⟩
      exact ⟨⟨fun ⟨y, hy, e⟩ => (h3 y hy).2 e, h2⟩, h1, fun y hy => (h3 y hy).1⟩
    · rintro ⟨⟨h1, h2⟩, h3, h4⟩
      exact ⟨h3, h2, fun y hy => ⟨h4 y hy, fun e => h1 ⟨y, hy, e⟩⟩⟩
/-- Pairs as a settled row may have them. -/
def okM (left : Int) (M : List (Int × Int)) : Prop := risingL M ∧ distL [left] M ∧ ∀ x ∈ M, x.2 ≠ 0
theorem okM_iff (left : Int) (M : List (Int × Int)) : okM left M ↔ (M.map (·.1)).Pairwise (· < ·) ∧ (M.map (·.2)).Nodup ∧ ∀ x ∈ M, x.2 ≠ left ∧ x.2 ≠ 0 := by
  rw [okM, rising_pw, dist_nd]
  simp only [List.mem_singleton]
  constructor
  · rintro ⟨h1, ⟨h2, h3⟩, h4⟩; exact ⟨h1, h2, fun x hx => ⟨h3 x hx, h4 x hx⟩⟩
  · rintro ⟨h1, h2, h3⟩; exact ⟨h1, ⟨h2, fun x hx => (h3 x hx).1⟩, fun x hx => (h3 x hx).2⟩
theorem good_of : ∀ (M : List (Int × Int)) (prev : Int) (seen : List Int), prev ∈ seen → distL seen M → (∀ x ∈ M, x.2 ≠ 0) → goodL prev M
  | [], _, _, _, _, _ => trivial
  | x :: r, prev, seen, hp, hd, h0 => by
    refine ⟨h0 x (List.mem_cons_self ..), fun e => hd.1 (by rw [e]; exact hp), good_of r x.2 (seen ++ [x.2]) (by simp) hd.2 (fun y hy => h0 y (List.mem_cons_of_mem _ hy))⟩
theorem okM.good {left : Int} {M : List (Int × Int)} (h : okM left M) : goodL left M := good_of M left [left] (by simp) h.2.1 h.2.2
theorem okM.sub {left : Int} {M M' : List (Int × Int)} (h : okM left M) (hs : M'.Sublist M) : okM left M' := by
  rw [okM_iff] at *
  exact ⟨h.1.sublist (hs.map _), h.2.1.sublist (hs.map _), fun x hx => h.2.2 x (hs.subset hx)⟩
theorem good_ne : ∀ (M : List (Int × Int)) (prev : Int), goodL prev M → ∀ x ∈ M, x.2 ≠ 0
  | [], _, _, x, hx => by simp at hx
  | y :: r, prev, h, x, hx => by
    rcases List.mem_cons.1 hx with rfl | hx
    · exact h.1
    · exact good_ne r y.2 h.2.2 x hx
theorem raw_app : ∀ (M Z : List (Int × Int)), (∀ x ∈ M, x.2 ≠ 0) → rawL (M ++ Z) = M.length + rawL Z
  | [], Z, _ => by simp
  | x :: r, Z, h => by
    rw [List.cons_append, rawL, if_neg (h x (List.mem_cons_self ..)), raw_app r Z (fun y hy => h y (List.mem_cons_of_mem _ hy)), List.length_cons]
    omega
theorem raw_zero (Z : List (Int × Int)) (h : zeroL Z) : rawL Z = 0 := by
  cases Z with
  | nil => rfl
  | cons x r => simp [rawL, h x (List.mem_cons_self ..)]
theorem rd_settled {left : Int} {M Z : List (Int × Int)} (h : okM left M) (hz : zeroL Z) : rdL left (M ++ Z) = M := by
  rw [rdL_good _ _ _ h.good, rdL_zero _ _ hz, List.append_nil]
theorem okL_settled {left : Int} {M Z : List (Int × Int)} (h : okM left M) (hz : zeroL Z) (hne : Z ≠ []) : okL left (M ++ Z) := by
  have e := rd_settled h hz
  have hr := raw_app M Z h.2.2
  rw [raw_zero Z hz] at hr
  refine ⟨by rw [e]; exact h.1, by rw [e]; exact h.2.1, by rw [e, hr]; rfl, ?_, ?_⟩
  · rw [e, List.length_append]
    have : 0 < Z.length := List.length_pos_iff.2 hne
    omega
  · rw [e, List.drop_left']
    · exact hz
    · rfl
theorem okL_inv {left : Int} {ps : List (Int × Int)} (h : okL left ps) : ∃ M Z, ps = M ++ Z ∧ rdL left ps = M ∧ okM left M ∧ zeroL Z ∧ Z ≠ [] := by
  obtain ⟨h1, h2, h3, h4, h5⟩ := h
  obtain ⟨g1, g2⟩ := rd_all left ps h3
  refine ⟨rdL left ps, ps.drop (rdL left ps).length, g2, rfl, ⟨h1, h2, good_ne _ _ g1⟩, h5, ?_⟩
  intro e
  have : (ps.drop (rdL left ps).length).length = 0 := by rw [e]; rfl
  rw [List.length_drop] at this
  omega
/-- A row of which M is read, as it may be in a change. -/
inductive St (left : Int) (M : List (Int × Int)) : List (Int × Int) → Prop
  | set (Z : List (Int × Int)) (hz : zeroL Z) (hne : Z ≠ []) : St left M (M ++ Z)
  | dup (A B Z : List (Int × Int)) (k : Int) (hM : M = A ++ B) (hz : zeroL Z) : St left M (A ++ (k, lastP left A) :: (B ++ Z))
theorem St.rd {left : Int} {M ps : List (Int × Int)} (h : St left M ps) (hl : left ≠ 0) (hM : okM left M) : rdL left ps = M := by
  cases h with
  | set Z hz hne => exact rd_settled hM hz
  | dup A B Z k e hz => subst e; exact rdL_dup left A B Z k hl hM.good hz
def WalkM (left : Int) (M : List (Int × Int)) (ps l : List (Int × Int)) : Prop := ∀ k, k < l.length → St left M (appP ps (l.take k))
theorem WalkM.nil {left : Int} {M ps : List (Int × Int)} : WalkM left M ps [] := fun k h => by simp at h
theorem WalkM.cons {left : Int} {M ps r : List (Int × Int)} {s : Int × Int} (h : St left M ps) (hr : WalkM left M (setP ps s) r) : WalkM left M ps (s :: r) := by
  intro k hk
  cases k with
  | zero => exact h
  | succ k => exact hr k (by simpa using hk)
theorem appP_app (ps a b : List (Int × Int)) : appP ps (a ++ b) = appP (appP ps a) b := List.foldl_append
theorem appP_cons (ps b : List (Int × Int)) (s : Int × Int) : appP ps (s :: b) = appP (setP ps s) b := rfl
theorem appP_nil (ps : List (Int × Int)) : appP ps [] = ps := rfl
theorem WalkM.app {left : Int} {M ps a b : List (Int × Int)} (h : WalkM left M ps a) (hb : WalkM left M (appP ps a) b) : WalkM left M ps (a ++ b) := by
  intro k hk
  by_cases hka : k < a.length
  · rw [List.take_append_of_le_length (by omega)]
    exact h k hka
  · rw [List.take_append, List.take_of_length_le (by omega), appP_app]
    exact hb _ (by rw [List.length_append] at hk; omega)
theorem lastP_app (left : Int) (A B : List (Int × Int)) : lastP left (A ++ B) = lastP (lastP left A) B := by
  rcases List.eq_nil_or_concat B with rfl | ⟨B', x, rfl⟩
  · simp [lastP]
  · rw [List.concat_eq_append, ← List.append_assoc, lastP_snoc, lastP_snoc]
/-- The slots behind a slot that counts for nothing move ahead. -/
theorem shF_walk {left : Int} {Z : List (Int × Int)} (hz : zeroL Z) : ∀ (B A : List (Int × Int)) (k : Int),
    WalkM left (A ++ B) (A ++ (k, lastP left A) :: (B ++ Z)) (shF A.length B.length (B ++ Z)) ∧ ∃ k', appP (A ++ (k, lastP left A) :: (B ++ Z)) (shF A.length B.length (B ++ Z)) = (A ++ B) ++ (k', lastP left (A ++ B)) :: Z
  | [], A, k => by
    refine ⟨.nil, k, ?_⟩
    simp [shF, appP]
  | y :: B, A, k => by
    have e1 := setP_key A (k, lastP left A) (y :: (B ++ Z)) y.1
    have e2 := setP_ptr A (y.1, lastP left A) (y :: (B ++ Z)) y.2
    dsimp only at e1 e2
    obtain ⟨h1, k', h2⟩ := shF_walk hz B (A ++ [y]) y.1
    have e3 : A ++ (y.1, y.2) :: y :: (B ++ Z) = (A ++ [y]) ++ (y.1, lastP left (A ++ [y])) :: (B ++ Z) := by rw [lastP_snoc]; simp
    have e4 : (A ++ [y]).length = A.length + 1 := by simp
    have e5 : (A ++ [y]) ++ B = A ++ y :: B := by simp
    rw [e4, e5] at h1 h2
    have e6 : shF A.length (y :: B).length (y :: B ++ Z) = (2 * (A.length : Int), y.1) :: (2 * (A.length : Int) + 1, y.2) :: shF (A.length + 1) B.length (B ++ Z) := rfl
    rw [e6]
    refine ⟨.cons (.dup A (y :: B) Z k rfl hz) ?_, k', ?_⟩
    · rw [List.cons_append, e1]
      refine .cons (.dup A (y :: B) Z y.1 rfl hz) ?_
      rw [e2, e3]
      exact h1
    · rw [appP_cons, appP_cons, List.cons_append, e1, e2, e3]
      exact h2
theorem shift_at (A B Z : List (Int × Int)) (x : Int × Int) : shiftM (A ++ x :: (B ++ Z)) A.length (A.length + 1 + B.length) = shF A.length B.length (B ++ Z) ++ [(2 * ((A ++ B).length : Int) + 1, 0)] := by
  have e1 : A.length + 1 + B.length - 1 - A.length = B.length := by omega
  have e2 : List.drop (A.length + 1) (A ++ x :: (B ++ Z)) = B ++ Z := by
    rw [← List.drop_drop, List.drop_left' rfl]
    rfl
  have e3 : 2 * ((A.length + 1 + B.length : Nat) : Int) - 1 = 2 * ((A ++ B).length : Int) + 1 := by rw [List.length_append]; omega
  rw [shiftM, e1, e2, e3]
theorem shift_walk {left : Int} (A B Z : List (Int × Int)) (k : Int) (hz : zeroL Z) :
    WalkM left (A ++ B) (A ++ (k, lastP left A) :: (B ++ Z)) (shiftM (A ++ (k, lastP left A) :: (B ++ Z)) A.length (A.length + 1 + B.length)) ∧
      ∃ k', appP (A ++ (k, lastP left A) :: (B ++ Z)) (shiftM (A ++ (k, lastP left A) :: (B ++ Z)) A.length (A.length + 1 + B.length)) = (A ++ B) ++ (k', 0) :: Z := by
  obtain ⟨h1, k', h2⟩ := shF_walk (left := left) hz B A k
  rw [shift_at]
  refine ⟨h1.app (.cons ?_ .nil), k', ?_⟩
  · rw [h2]
    have := St.dup (left := left) (A ++ B) [] Z k' (List.append_nil _).symm hz
    simpa using this
  · rw [appP_app, h2, appP_cons, appP_nil]
    exact setP_ptr (A ++ B) (k', lastP left (A ++ B)) Z 0
theorem zero_cons {Z : List (Int × Int)} (hz : zeroL Z) (k : Int) : zeroL ((k, 0) :: Z) := by
  intro x hx
  rcases List.mem_cons.1 hx with rfl | hx
  · rfl
  · exact hz x hx
/-- What Tidy stores in a row of a change. -/
def tidyM (left : Int) (ps : List (Int × Int)) (t : List (Int × Int)) : Prop := okL left (appP ps t) ∧ ∃ M, rdL left ps = M ∧ rdL left (appP ps t) = M
theorem tidy_set {left : Int} {M ps : List (Int × Int)} (h : okL left ps) : tidyM left ps [] := ⟨h, _, rfl, rfl⟩
theorem tidy_dup {left : Int} {A B Z : List (Int × Int)} {k : Int} (hl : left ≠ 0) (hM : okM left (A ++ B)) (hz : zeroL Z) :
    tidyM left (A ++ (k, lastP left A) :: (B ++ Z)) (shiftM (A ++ (k, lastP left A) :: (B ++ Z)) A.length (A.length + 1 + B.length)) := by
  obtain ⟨_, k', h2⟩ := shift_walk (left := left) A B Z k hz
  refine ⟨?_, A ++ B, rdL_dup left A B Z k hl hM.good hz, ?_⟩
  · rw [h2]; exact okL_settled hM (zero_cons hz k') (by simp)
  · rw [h2]; exact rd_settled hM (zero_cons hz k')
/-- A change of a settled row: the stores, of which the first so many leave what is read, and the others leave what will be. -/
def Chg (left : Int) (was will ps l : List (Int × Int)) : Prop :=
  okM left was ∧ okM left will ∧ (∃ l1 l2, l = l1 ++ l2 ∧ WalkM left was ps l1 ∧ WalkM left will (appP ps l1) l2) ∧ ∃ Z, appP ps l = will ++ Z ∧ zeroL Z ∧ Z ≠ []
theorem dnF_walk {left : Int} {Z : List (Int × Int)} {z : Int × Int} (hz : zeroL (z :: Z)) : ∀ (R A : List (Int × Int)),
    WalkM left (A ++ R) (A ++ (R ++ z :: Z)) (dnF A.length R) ∧ ((R = [] ∧ appP (A ++ (R ++ z :: Z)) (dnF A.length R) = A ++ z :: Z) ∨ ∃ x r, R = x :: r ∧ appP (A ++ (R ++ z :: Z)) (dnF A.length R) = A ++ x :: (x.1, x.2) :: (r ++ Z))
  | [], A => ⟨.nil, .inl ⟨rfl, rfl⟩⟩
  | x :: r, A => by
    have hz2 : zeroL Z := fun y hy => hz y (List.mem_cons_of_mem _ hy)
    obtain ⟨h1, h2⟩ := dnF_walk hz r (A ++ [x])
    have e4 : (A ++ [x]).length = A.length + 1 := by simp
    have e5 : (A ++ [x]) ++ r = A ++ x :: r := by simp
    have e6 : (A ++ [x]) ++ (r ++ z :: Z) = A ++ (x :: r ++ z :: Z) := by simp
    rw [e4, e5, e6] at h1
    rw [e4, e6] at h2
    -- what stands behind x then
    have hw : ∃ w : Int × Int, appP (A ++ (x :: r ++ z :: Z)) (dnF (A.length + 1) r) = (A ++ [x]) ++ w :: (r ++ Z) ∧ St left (A ++ x :: r) ((A ++ [x]) ++ w :: (r ++ Z)) := by
      rcases h2 with ⟨rfl, h2⟩ | ⟨y, r', rfl, h2⟩
      · refine ⟨z, by rw [h2]; rfl, ?_⟩
        have := St.set (left := left) (M := A ++ [x]) (z :: Z) hz (by simp)
        simpa using this
      · refine ⟨y, by rw [h2]; rfl, ?_⟩
        have := St.dup (left := left) (M := A ++ x :: y :: r') ((A ++ [x]) ++ [y]) r' Z y.1 (by simp) hz2
        rw [lastP_snoc] at this
        simpa using this
    obtain ⟨w, hw1, hw2⟩ := hw
    have s1 := setP_ptr (A ++ [x]) w (r ++ Z) x.2
    have s2 := setP_key (A ++ [x]) (w.1, x.2) (r ++ Z) x.1
    rw [e4] at s1 s2
    have e7 : 2 * ((A.length + 1 : Nat) : Int) + 1 = 2 * (A.length : Int) + 3 := by omega
    have e8 : 2 * ((A.length + 1 : Nat) : Int) = 2 * (A.length : Int) + 2 := by omega
    rw [e7] at s1
    rw [e8] at s2
    dsimp only at s2
    refine ⟨?_, .inr ⟨x, r, rfl, ?_⟩⟩
    · rw [dnF]
      refine h1.app (.cons ?_ (.cons ?_ .nil))
      · rw [hw1]; exact hw2
      · rw [hw1, s1]
        have := St.dup (left := left) (M := A ++ x :: r) (A ++ [x]) r Z w.1 (by simp) hz2
        rwa [lastP_snoc] at this
    · rw [dnF, appP_app, hw1, appP_cons, appP_cons, appP_nil, s1, s2]
      simp
theorem put_chg {left : Int} {A R Z : List (Int × Int)} {z z2 : Int × Int} {p : Int × Int} (hz : zeroL (z :: z2 :: Z)) (h1 : okM left (A ++ R)) (h2 : okM left (A ++ p :: R)) :
    Chg left (A ++ R) (A ++ p :: R) ((A ++ R) ++ z :: z2 :: Z)
      ((2 * ((A ++ R).length : Int) + 3, 0) :: (dnF A.length R ++ [(2 * (A.length : Int) + 1, lastP left A), (2 * (A.length : Int), p.1), (2 * (A.length : Int) + 1, p.2)])) := by
  have hz2 : zeroL (z2 :: Z) := fun y hy => hz y (List.mem_cons_of_mem _ hy)
  have s0 : setP ((A ++ R) ++ z :: z2 :: Z) (2 * ((A ++ R).length : Int) + 3, 0) = (A ++ R) ++ z :: z2 :: Z := by
    have := setP_ptr ((A ++ R) ++ [z]) z2 Z 0
    have e : 2 * (((A ++ R) ++ [z]).length : Int) + 1 = 2 * ((A ++ R).length : Int) + 3 := by rw [List.length_append (as := A ++ R), List.length_singleton]; omega
    rw [e] at this
    have e0 : (z2.1, (0 : Int)) = z2 := by rw [← hz z2 (by simp)]
    rw [e0] at this
    simpa using this
  obtain ⟨g1, g2⟩ := dnF_walk (left := left) hz R A
  have e1 : (A ++ R) ++ z :: z2 :: Z = A ++ (R ++ z :: z2 :: Z) := by simp
  rw [e1] at s0
  rw [e1]
  have hw : ∃ k v, appP (A ++ (R ++ z :: z2 :: Z)) (dnF A.length R) = A ++ (k, v) :: (R ++ z2 :: Z) ∧ St left (A ++ R) (A ++ (k, v) :: (R ++ z2 :: Z)) := by
    rcases g2 with ⟨rfl, g2⟩ | ⟨x, r, rfl, g2⟩
    · refine ⟨z.1, z.2, by rw [g2]; rfl, ?_⟩
      have := St.set (left := left) (M := A) (z :: z2 :: Z) hz (by simp)
      simpa using this
    · refine ⟨x.1, x.2, by rw [g2]; rfl, ?_⟩
      have := St.dup (left := left) (M := A ++ x :: r) (A ++ [x]) r (z2 :: Z) x.1 (by simp) hz2
      rw [lastP_snoc] at this
      simpa using this
  obtain ⟨k, v, hw1, hw2⟩ := hw
  have s1 := setP_ptr A (k, v) (R ++ z2 :: Z) (lastP left A)
  have s2 := setP_key A (k, lastP left A) (R ++ z2 :: Z) p.1
  have s3 := setP_ptr A (p.1, lastP left A) (R ++ z2 :: Z) p.2
  dsimp only at s1 s2 s3
  refine ⟨h1, h2, ⟨_, [], (List.append_nil _).symm, ?_, .nil⟩, z2 :: Z, ?_, hz2, by simp⟩
  · refine .cons ?_ ?_
    · rw [← e1]; exact .set _ hz (by simp)
    · rw [s0]
      refine g1.app (.cons ?_ (.cons ?_ (.cons ?_ .nil)))
      · rw [hw1]; exact hw2
      · rw [hw1, s1]; exact .dup A R (z2 :: Z) k rfl hz2
      · rw [hw1, s1, s2]; exact .dup A R (z2 :: Z) p.1 rfl hz2
  · rw [appP_cons, s0, appP_app, hw1, appP_cons, appP_cons, appP_cons, appP_nil, s1, s2, s3]
    simp
theorem take_chg {left : Int} {A R Z : List (Int × Int)} {x : Int × Int} (hz : zeroL Z) (hne : Z ≠ []) (h1 : okM left (A ++ x :: R)) :
    Chg left (A ++ x :: R) (A ++ R) (A ++ x :: (R ++ Z)) ((2 * (A.length : Int) + 1, lastP left A) :: shiftM (A ++ x :: (R ++ Z)) A.length (A.length + 1 + R.length)) := by
  have h2 : okM left (A ++ R) := h1.sub (by simp)
  have s1 := setP_ptr A x (R ++ Z) (lastP left A)
  obtain ⟨g1, k', g2⟩ := shift_walk (left := left) A R Z x.1 hz
  rw [shift_at] at g1 g2
  rw [shift_at]
  refine ⟨h1, h2, ⟨[(2 * (A.length : Int) + 1, lastP left A)], _, rfl, .cons ?_ .nil, ?_⟩, (k', 0) :: Z, ?_, zero_cons hz k', by simp⟩
  · have := St.set (left := left) (M := A ++ x :: R) Z hz hne
    simpa using this
  · rw [appP_cons, appP_nil, s1]; exact g1
  · rw [appP_cons, s1]; exact g2
theorem swap_chg {left : Int} {A R Z : List (Int × Int)} {x : Int × Int} {v : Int} (hz : zeroL Z) (hne : Z ≠ []) (h1 : okM left (A ++ x :: R)) (h2 : okM left (A ++ (x.1, v) :: R)) :
    Chg left (A ++ x :: R) (A ++ (x.1, v) :: R) (A ++ x :: (R ++ Z)) [(2 * (A.length : Int) + 1, v)] := by
  have s1 := setP_ptr A x (R ++ Z) v
  refine ⟨h1, h2, ⟨[(2 * (A.length : Int) + 1, v)], [], rfl, .cons ?_ .nil, .nil⟩, Z, ?_, hz, hne⟩
  · have := St.set (left := left) (M := A ++ x :: R) Z hz hne
    simpa using this
  · rw [appP_cons, appP_nil, s1]; simp
theorem okM_put {left : Int} {A R : List (Int × Int)} {p : Int × Int} (h : okM left (A ++ R)) (ha : ∀ x ∈ A, x.1 < p.1) (hr : ∀ x ∈ R, p.1 < x.1) (hn : ¬ hasL (A ++ R) p.2) (h0 : p.2 ≠ 0) (hl : p.2 ≠ left) : okM left (A ++ p :: R) := by
  rw [okM_iff] at *
  obtain ⟨h1, h2, h3⟩ := h
  simp only [hasL, not_exists, not_and, List.mem_append] at hn
  refine ⟨?_, ?_, ?_⟩
  · rw [List.map_append, List.pairwise_append] at h1
    rw [List.map_append, List.map_cons, List.pairwise_append, List.pairwise_cons]
    obtain ⟨a1, a2, a3⟩ := h1
    refine ⟨a1, ⟨fun a ha' => ?_, a2⟩, fun a ha' b hb => ?_⟩
    · obtain ⟨x, hx, rfl⟩ := List.mem_map.1 ha'; exact hr x hx
    · obtain ⟨x, hx, rfl⟩ := List.mem_map.1 ha'
      rcases List.mem_cons.1 hb with rfl | hb
      · exact ha x hx
      · exact a3 _ ha' b hb
  · rw [List.map_append] at h2
    rw [List.map_append, List.map_cons, List.nodup_append]
    rw [List.nodup_append] at h2
    obtain ⟨a1, a2, a3⟩ := h2
    refine ⟨a1, ?_, fun a ha' b hb => ?_⟩
    · rw [List.nodup_cons]
      refine ⟨fun hm => ?_, a2⟩
      obtain ⟨x, hx, e⟩ := List.mem_map.1 hm
      exact hn x (.inr hx) e
    · obtain ⟨x, hx, rfl⟩ := List.mem_map.1 ha'
      rcases List.mem_cons.1 hb with rfl | hb
      · exact hn x (.inl hx)
      · exact a3 _ ha' b hb
  · intro x hx
    rw [List.mem_append, List.mem_cons] at hx
    rcases hx with hx | rfl | hx
    · exact h3 x (by simp [hx])
    · exact ⟨hl, h0⟩
    · exact h3 x (by simp [hx])
theorem okM_swap {left : Int} {A R : List (Int × Int)} {x : Int × Int} {v : Int} (h : okM left (A ++ x :: R)) (hn : ¬ hasL (A ++ x :: R) v) (h0 : v ≠ 0) (hl : v ≠ left) : okM left (A ++ (x.1, v) :: R) := by
  have h2 := h
  rw [okM_iff] at h
  have hp := h.1
  rw [List.map_append, List.map_cons, List.pairwise_append, List.pairwise_cons] at hp
  obtain ⟨a1, ⟨a2, a3⟩, a4⟩ := hp
  refine okM_put (p := (x.1, v)) (h2.sub (by simp)) (fun y hy => a4 _ (List.mem_map.2 ⟨y, hy, rfl⟩) _ (List.mem_cons_self ..)) (fun y hy => a2 _ (List.mem_map.2 ⟨y, hy, rfl⟩)) ?_ h0 hl
  intro ⟨y, hy, e⟩
  refine hn ⟨y, ?_, e⟩
  rw [List.mem_append] at hy
  rw [List.mem_append, List.mem_cons]
  rcases hy with hy | hy
  · exact .inl hy
  · exact .inr (.inr hy)
end Go.Slots
