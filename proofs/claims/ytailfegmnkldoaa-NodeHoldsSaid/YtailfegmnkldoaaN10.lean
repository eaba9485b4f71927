/- WHAT A SPLIT'S STORES MAKE OF A NODE, in plain numbers. No condition but those stated. -/
import Derived.Test.YtailfegmnkldoaaNoM
import Derived.Test.YtailfegmnkldoaaS13
set_option linter.unusedSimpArgs false
set_option linter.unusedVariables false
set_option linter.unusedSectionVars false
namespace Go.Nod
open Go Go.Am Go.Slots
/-- The pairs of which all but the first so many are struck. -/
def cutR (R Z : List (Int × Int)) (c : Nat) : List (Int × Int) := R.take c ++ ((R.drop c).map (fun x => (x.1, (0 : Int))) ++ Z)
theorem cutR_len (R Z : List (Int × Int)) (c : Nat) : (cutR R Z c).length = R.length + Z.length := by simp [cutR]; omega
theorem cutR_all (R Z : List (Int × Int)) : cutR R Z R.length = R ++ Z := by simp [cutR]
theorem goodL_take (prev : Int) : ∀ (R : List (Int × Int)) (c : Nat), goodL prev R → goodL prev (R.take c)
  | [], c, _ => by simp [goodL]
  | x :: r, 0, _ => by simp [goodL]
  | x :: r, c + 1, h => by
    rw [List.take_succ_cons]
    exact ⟨h.1, h.2.1, goodL_take x.2 r c h.2.2⟩
theorem zeroL_cut (R Z : List (Int × Int)) (c : Nat) (hz : zeroL Z) : zeroL ((R.drop c).map (fun x => (x.1, (0 : Int))) ++ Z) := by
  intro x hx
  rcases List.mem_append.1 hx with h | h
  · obtain ⟨y, _, rfl⟩ := List.mem_map.1 h; rfl
  · exact hz x h
theorem cutR_rd {f : Int} {R Z : List (Int × Int)} (hg : goodL f R) (hz : zeroL Z) (c : Nat) : rdL f (cutR R Z c) = R.take c := by
  rw [cutR, rdL_good f _ _ (goodL_take f R c hg), rdL_zero _ _ (zeroL_cut R Z c hz), List.append_nil]
theorem rawL_good (prev : Int) : ∀ (R Z : List (Int × Int)), goodL prev R → zeroL Z → rawL (R ++ Z) = R.length
  | [], Z, _, hz => by
    cases Z with
    | nil => rfl
    | cons x r => simp [rawL, hz x (List.mem_cons_self ..)]
  | x :: r, Z, h, hz => by
    rw [List.cons_append, rawL, if_neg h.1, rawL_good x.2 r Z h.2.2 hz]; rfl
theorem risingL_take : ∀ (R : List (Int × Int)) (c : Nat), risingL R → risingL (R.take c)
  | [], c, _ => by simp [risingL]
  | x :: r, 0, _ => by simp [risingL]
  | [x], c + 1, _ => by simp [risingL]
  | x :: y :: r, 1, _ => by simp [risingL]
  | x :: y :: r, c + 2, h => by
    have := risingL_take (y :: r) (c + 1) h.2
    rw [List.take_succ_cons] at this
    rw [List.take_succ_cons, List.take_succ_cons]
    exact ⟨h.1, this⟩
theorem distL_take : ∀ (seen : List Int) (R : List (Int × Int)) (c : Nat), distL seen R → distL seen (R.take c)
  | _, [], c, _ => by simp [distL]
  | _, x :: r, 0, _ => by simp [distL]
  | seen, x :: r, c + 1, h => by
    rw [List.take_succ_cons]
    exact ⟨h.1, distL_take _ r c h.2⟩
theorem risingL_drop : ∀ (R : List (Int × Int)) (c : Nat), risingL R → risingL (R.drop c)
  | [], c, _ => by simp [risingL]
  | x :: r, 0, h => h
  | [x], c + 1, _ => by simp [risingL]
  | x :: y :: r, c + 1, h => by
    rw [List.drop_succ_cons]
    exact risingL_drop (y :: r) c h.2
theorem distL_less : ∀ (seen seen' : List Int) (R : List (Int × Int)), (∀ k ∈ seen', k ∈ seen) → distL seen R → distL seen' R
  | _, _, [], _, _ => trivial
  | seen, seen', x :: r, hs, h => by
    refine ⟨fun k => h.1 (hs _ k), distL_less (seen ++ [x.2]) (seen' ++ [x.2]) r (fun k hk => ?_) h.2⟩
    rcases List.mem_append.1 hk with hk | hk
    · exact List.mem_append_left _ (hs k hk)
    · exact List.mem_append_right _ hk
theorem distL_drop : ∀ (seen : List Int) (R : List (Int × Int)) (c : Nat), distL seen R → distL (seen ++ (R.take c).map (·.2)) (R.drop c)
  | _, [], c, _ => by simp [distL]
  | seen, x :: r, 0, h => by simpa using h
  | seen, x :: r, c + 1, h => by
    rw [List.drop_succ_cons, List.take_succ_cons]
    have := distL_drop (seen ++ [x.2]) r c h.2
    simpa using this
theorem goodL_of (f : Int) : ∀ (R : List (Int × Int)) (seen : List Int), f ∈ seen → (∀ x ∈ R, x.2 ≠ 0) → distL seen R → goodL f R
  | [], _, _, _, _ => trivial
  | x :: r, seen, hs, hz, h => ⟨hz x (List.mem_cons_self ..), fun e => h.1 (by rw [e]; exact hs), goodL_of x.2 r (seen ++ [x.2]) (by simp) (fun y hy => hz y (List.mem_cons_of_mem _ hy)) h.2⟩
theorem goodL_nz : ∀ (f : Int) (R : List (Int × Int)), goodL f R → ∀ x ∈ R, x.2 ≠ 0
  | _, [], _, x, hx => by simp at hx
  | f, y :: r, h, x, hx => by
    rcases List.mem_cons.1 hx with rfl | hx
    · exact h.1
    · exact goodL_nz y.2 r h.2.2 x hx
theorem zeroL_app {A B : List (Int × Int)} (ha : zeroL A) (hb : zeroL B) : zeroL (A ++ B) := fun x hx => (List.mem_append.1 hx).elim (ha x) (hb x)
/-- A settled row is its pairs, with noughts behind. -/
theorem okL_form {f : Int} {ps : List (Int × Int)} (h : okL f ps) : ∃ Z, ps = rdL f ps ++ Z ∧ zeroL Z ∧ goodL f (rdL f ps) ∧ Z ≠ [] := by
  obtain ⟨h1, h2, h3, h4, h5⟩ := h
  obtain ⟨k1, k2⟩ := rd_all f ps h3
  refine ⟨_, k2, h5, k1, fun e => ?_⟩
  rw [e, List.append_nil] at k2
  rw [← k2] at h4
  omega
/-- Pairs that are good, with noughts behind, are settled. -/
theorem okL_made {f : Int} {R Z : List (Int × Int)} (h1 : risingL R) (h2 : distL [f] R) (hg : goodL f R) (hz : zeroL Z) (hne : Z ≠ []) : okL f (R ++ Z) ∧ rdL f (R ++ Z) = R := by
  have hr : rdL f (R ++ Z) = R := by rw [rdL_good f _ _ hg, rdL_zero _ _ hz, List.append_nil]
  refine ⟨⟨by rw [hr]; exact h1, by rw [hr]; exact h2, by rw [hr, rawL_good f R Z hg hz], ?_, ?_⟩, hr⟩
  · rw [hr, List.length_append]
    have := List.length_pos_iff.2 hne
    omega
  · rw [hr, List.drop_left]; exact hz
theorem okL_cut {f : Int} {R Z : List (Int × Int)} (h1 : risingL R) (h2 : distL [f] R) (hg : goodL f R) (hz : zeroL Z) (hne : Z ≠ []) (c : Nat) : okL f (cutR R Z c) ∧ rdL f (cutR R Z c) = R.take c :=
  okL_made (risingL_take R c h1) (distL_take _ R c h2) (goodL_take f R c hg) (zeroL_cut R Z c hz) (by simp [hne])
/-- The head's words, as pairs. -/
def hd4 (h : Hd) : List (Int × Int) := [(h.m, h.s), (h.l, h.f), (h.y, h.a), (h.b, h.c)]
theorem words_row (h : Hd) (ps : List (Int × Int)) (rest : List AV) : wordsA h ps rest = encs pairA (hd4 h ++ ps) ++ rest := by
  rw [encs_append, List.append_assoc]; rfl
def withS (h : Hd) (to : Int) : Hd := { h with s := to }
theorem set_sib (h : Hd) (ps : List (Int × Int)) (to : Int) : setP (hd4 h ++ ps) (1, to) = hd4 (withS h to) ++ ps :=
  setP_ptr [] (h.m, h.s) ((h.l, h.f) :: (h.y, h.a) :: (h.b, h.c) :: ps) to
theorem set_cut (h : Hd) (R Z : List (Int × Int)) (c : Nat) (hc : c < R.length) : setP (hd4 h ++ cutR R Z (c + 1)) (2 * (c : Int) + 9, 0) = hd4 h ++ cutR R Z c := by
  have e1 : cutR R Z (c + 1) = R.take c ++ R[c] :: ((R.drop (c + 1)).map (fun x => (x.1, (0 : Int))) ++ Z) := by
    rw [cutR, List.take_add_one, List.getElem?_eq_getElem hc, List.append_assoc]; rfl
  have e2 : cutR R Z c = R.take c ++ (R[c].1, 0) :: ((R.drop (c + 1)).map (fun x => (x.1, (0 : Int))) ++ Z) := by
    rw [cutR, List.drop_eq_getElem_cons hc]; rfl
  have e3 : 2 * (c : Int) + 9 = 2 * (((hd4 h ++ R.take c).length : Nat) : Int) + 1 := by
    have : (hd4 h ++ R.take c).length = 4 + c := by rw [List.length_append, List.length_take, Nat.min_eq_left (Nat.le_of_lt hc)]; rfl
    rw [this]; omega
  rw [e1, ← List.append_assoc, e3, setP_ptr, e2, List.append_assoc]
end Go.Nod
