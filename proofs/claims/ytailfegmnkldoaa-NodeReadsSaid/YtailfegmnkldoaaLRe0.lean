/- THE CONSUMER OF THE LAW NodeReads. No condition but those stated. -/
import Derived.Test.YtailfegmnkldoaaN13
import Derived.Test.YtailfegmnkldoaaNL
set_option linter.unusedSimpArgs false
set_option linter.unusedVariables false
set_option linter.unusedSectionVars false
namespace Go.Proofs.Ytailfegmnkldoaa
open Go Go.Am Go.Slots Go.Nod
set_option maxHeartbeats 4000000
set_option maxRecDepth 10000
def reAs : ACode := (.seq (.region [⟨(.some 14), (.mv (.t 70)), .none⟩]) (.region [⟨(.some 15), (.alloc [(.int .u64 0), (.int .u64 0)]), .none⟩, ⟨.none, (.store 2 (.t 15) (.t 71)), .none⟩]))
def reBd : ACode := (.block 3 (.seq (.seq (.drawn [⟨(.some 72), (.load 1 false (.t 13)), .none⟩, ⟨(.some 73), (.fld 5 (.t 8)), .none⟩, ⟨(.some 74), (.load 1 false (.t 73)), .none⟩, ⟨(.some 75), (.len 0 (.t 74)), .none⟩, ⟨(.some 76), (.bin .geq .num (.t 72) (.t 75)), .none⟩, ⟨(.some 77), (.mv (.t 76)), .none⟩, ⟨(.some 78), (.mv (.t 14)), (.some (77, false))⟩, ⟨(.some 79), (.load 1 false (.t 11)), (.some (77, false))⟩, ⟨(.some 80), (.load 1 false (.t 13)), (.some (77, false))⟩, ⟨(.some 81), (.ixa 1 (.t 79) (.t 80)), (.some (77, false))⟩, ⟨(.some 82), (.load 1 false (.t 81)), (.some (77, false))⟩, ⟨(.some 83), (.bin .neq .num (.t 78) (.t 82)), (.some (77, false))⟩, ⟨(.some 84), (.pick (.t 77) (.c (.bool true)) (.t 83)), .none⟩, ⟨(.some 85), (.mv (.t 84)), .none⟩, ⟨(.some 86), (.load 2 true (.t 15)), (.some (85, false))⟩, ⟨(.some 87), (.fld 5 (.t 8)), (.some (85, false))⟩, ⟨(.some 88), (.load 1 false (.t 87)), (.some (85, false))⟩, ⟨(.some 89), (.load 1 false (.t 13)), (.some (85, false))⟩, ⟨(.some 90), (.ixa 2 (.t 88) (.t 89)), (.some (85, false))⟩, ⟨(.some 91), (.load 2 true (.t 90)), (.some (85, false))⟩] [⟨(.some 92), (.bin .neq (.struct [0, 0]) (.t 86) (.t 91)), (.some (85, false))⟩, ⟨(.some 93), (.pick (.t 85) (.c (.bool true)) (.t 92)), .none⟩]) (.cond (.t 93) (.seq (.region [⟨.none, (.store 1 (.t 4) (.c (.bool false))), .none⟩]) .ret) .skip)) (.seq (.region [⟨(.some 94), (.load 1 false (.t 13)), .none⟩, ⟨(.some 95), (.bin .add .num (.t 94) (.c (.int .i64 1))), .none⟩, ⟨.none, (.store 1 (.t 13) (.t 95)), .none⟩]) (.seq (.region [⟨(.some 96), (.load 1 false (.t 12)), .none⟩, ⟨(.some 97), (.bin .eql .num (.t 96) (.c (.int .i64 0))), .none⟩, ⟨(.some 98), (.mv (.t 97)), .none⟩, ⟨(.some 99), (.load 1 false (.t 13)), (.some (98, true))⟩, ⟨(.some 100), (.load 1 false (.t 3)), (.some (98, true))⟩, ⟨(.some 101), (.bin .geq .num (.t 99) (.t 100)), (.some (98, true))⟩, ⟨(.some 102), (.pick (.t 98) (.t 101) (.c (.bool false))), .none⟩]) (.cond (.t 102) (.exit 2) .skip)))))
/-- What the consumer does: it counts; in the first turn it may leave. -/
def reStp (turn many : Int) (s : Nat × Bool) (_ : Nat) (_ : Int × Int) : (Nat × Bool) × Bool :=
  if turn = 0 ∧ many ≤ (s.1 : Int) + 1 then ((s.1 + 1, true), false) else ((s.1 + 1, false), true)
def reOk (L : List (Nat × (Int × Int))) (s : Nat × Bool) (j : Nat) (x : Int × Int) : Prop := s.2 = false ∧ L[s.1]? = some (j, x)
theorem drop_next {α : Type} {L r : List α} {x : α} {n : Nat} (h : L.drop n = x :: r) : L.drop (n + 1) = r ∧ L[n]? = some x := by
  constructor
  · rw [← List.drop_drop, h]; rfl
  · have : (L.drop n)[0]? = some x := by rw [h]; rfl
    rwa [List.getElem?_drop, Nat.add_zero] at this
theorem re_ok (turn many : Int) (L : List (Nat × (Int × Int))) : ∀ (suf : List (Nat × (Int × Int))) (n : Nat), L.drop n = suf → okRun (reOk L) (reStp turn many) (n, false) suf
  | [], _, _ => trivial
  | (j, x) :: r, n, h => by
    obtain ⟨h2, h1⟩ := drop_next h
    refine ⟨⟨rfl, h1⟩, fun hs => ?_⟩
    have e : (reStp turn many (n, false) j x).1 = (n + 1, false) := by
      unfold reStp at hs ⊢
      split <;> simp_all
    rw [e]
    exact re_ok turn many L r (n + 1) h2
theorem re_run (turn many M : Int) (hM : (1 < many ∧ M = many) ∨ (many ≤ 1 ∧ M = 1)) (L : List (Nat × (Int × Int))) : ∀ (suf : List (Nat × (Int × Int))) (n : Nat), L.drop n = suf → n ≤ L.length → (n = 0 ∨ turn ≠ 0 ∨ (n : Int) < many) →
    ((turn = 0 → ((runY (reStp turn many) (n, false) suf).1 : Int) = if (L.length : Int) ≤ M then (L.length : Int) else M) ∧ (turn ≠ 0 → runY (reStp turn many) (n, false) suf = (L.length, false)))
  | [], n, h, hn, h0 => by
    have hl : L.length = n := by
      have := congrArg List.length h
      simp at this; omega
    simp only [runY]
    refine ⟨fun ht => ?_, fun _ => by rw [hl]⟩
    rcases hM with ⟨h1, rfl⟩ | ⟨h1, rfl⟩ <;> split <;> omega
  | (j, x) :: r, n, h, hn, h0 => by
    obtain ⟨h2, h1⟩ := drop_next h
    have hlt : n < L.length := (List.getElem?_eq_some_iff.1 h1).1
    by_cases hs : turn = 0 ∧ many ≤ (n : Int) + 1
    · have e : reStp turn many (n, false) j x = ((n + 1, true), false) := by simp only [reStp, hs, and_self, if_true]
      simp only [runY, e, Bool.false_eq_true, if_false]
      refine ⟨fun _ => ?_, fun ht => absurd hs.1 ht⟩
      obtain ⟨ht, hs2⟩ := hs
      have h0' : n = 0 ∨ (n : Int) < many := by
        rcases h0 with h0 | h0 | h0
        · exact .inl h0
        · exact absurd ht h0
        · exact .inr h0
      rcases hM with ⟨h1, rfl⟩ | ⟨h1, rfl⟩ <;> split <;> omega
    · have e : reStp turn many (n, false) j x = ((n + 1, false), true) := by simp only [reStp, hs, if_false]
      simp only [runY, e, if_true]
      refine re_run turn many M hM L r (n + 1) h2 (by omega) ?_
      by_cases ht : turn = 0
      · right; right
        have : ¬ many ≤ (n : Int) + 1 := fun hh => hs ⟨ht, hh⟩
        omega
      · exact .inr (.inl ht)
end Go.Proofs.Ytailfegmnkldoaa
