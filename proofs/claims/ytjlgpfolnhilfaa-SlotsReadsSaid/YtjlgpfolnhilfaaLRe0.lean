/- THE CONSUMER OF THE LAW SlotsReads. No condition but those stated. -/
import Derived.Test.YtjlgpfolnhilfaaS12
import Derived.Test.YtjlgpfolnhilfaaL1
import Derived.Test.YtjlgpfolnhilfaaSTab
set_option linter.unusedSimpArgs false
set_option linter.unusedVariables false
set_option linter.unusedSectionVars false
namespace Go.Proofs.Ytjlgpfolnhilfaa
open Go Go.Am Go.Slots
set_option maxHeartbeats 4000000
set_option maxRecDepth 10000
def reAs : ACode := (.seq (.region [⟨(.some 13), (.mv (.t 56)), .none⟩]) (.region [⟨(.some 14), (.alloc [(.int .u64 0), (.int .u64 0)]), .none⟩, ⟨.none, (.store 2 (.t 14) (.t 57)), .none⟩]))
def reBd : ACode := (.block 3 (.seq (.seq (.drawn [⟨(.some 58), (.load 1 false (.t 12)), .none⟩, ⟨(.some 59), (.load 1 false (.t 7)), .none⟩, ⟨(.some 60), (.len 0 (.t 59)), .none⟩, ⟨(.some 61), (.bin .geq .num (.t 58) (.t 60)), .none⟩, ⟨(.some 62), (.mv (.t 61)), .none⟩, ⟨(.some 63), (.mv (.t 13)), (.some (62, false))⟩, ⟨(.some 64), (.load 1 false (.t 8)), (.some (62, false))⟩, ⟨(.some 65), (.load 1 false (.t 12)), (.some (62, false))⟩, ⟨(.some 66), (.ixa 1 (.t 64) (.t 65)), (.some (62, false))⟩, ⟨(.some 67), (.load 1 false (.t 66)), (.some (62, false))⟩, ⟨(.some 68), (.bin .neq .num (.t 63) (.t 67)), (.some (62, false))⟩, ⟨(.some 69), (.pick (.t 62) (.c (.bool true)) (.t 68)), .none⟩, ⟨(.some 70), (.mv (.t 69)), .none⟩, ⟨(.some 71), (.load 2 true (.t 14)), (.some (70, false))⟩, ⟨(.some 72), (.load 1 false (.t 7)), (.some (70, false))⟩, ⟨(.some 73), (.load 1 false (.t 12)), (.some (70, false))⟩, ⟨(.some 74), (.ixa 2 (.t 72) (.t 73)), (.some (70, false))⟩, ⟨(.some 75), (.load 2 true (.t 74)), (.some (70, false))⟩] [⟨(.some 76), (.bin .neq (.struct [0, 0]) (.t 71) (.t 75)), (.some (70, false))⟩, ⟨(.some 77), (.pick (.t 70) (.c (.bool true)) (.t 76)), .none⟩]) (.cond (.t 77) (.seq (.region [⟨.none, (.store 1 (.t 6) (.c (.bool false))), .none⟩]) .ret) .skip)) (.seq (.region [⟨(.some 78), (.load 1 false (.t 12)), .none⟩, ⟨(.some 79), (.bin .add .num (.t 78) (.c (.int .i64 1))), .none⟩, ⟨.none, (.store 1 (.t 12) (.t 79)), .none⟩]) (.seq (.region [⟨(.some 80), (.load 1 false (.t 11)), .none⟩, ⟨(.some 81), (.bin .eql .num (.t 80) (.c (.int .i64 0))), .none⟩, ⟨(.some 82), (.mv (.t 81)), .none⟩, ⟨(.some 83), (.load 1 false (.t 12)), (.some (82, true))⟩, ⟨(.some 84), (.load 1 false (.t 5)), (.some (82, true))⟩, ⟨(.some 85), (.bin .geq .num (.t 83) (.t 84)), (.some (82, true))⟩, ⟨(.some 86), (.pick (.t 82) (.t 85) (.c (.bool false))), .none⟩]) (.cond (.t 86) (.exit 2) .skip)))))
/-- What the consumer does: it counts; in the first turn it may leave. -/
def reStp (turn many : Int) (s : Nat × Bool) (_ : Nat) (_ : Int × Int) : (Nat × Bool) × Bool :=
  if turn = 0 ∧ many ≤ (s.1 : Int) + 1 then ((s.1 + 1, true), false) else ((s.1 + 1, false), true)
def reOk (L : List (Nat × (Int × Int))) (s : Nat × Bool) (j : Nat) (x : Int × Int) : Prop := s.2 = false ∧ L[s.1]? = some (j, x)
theorem drop_next {α : Type} {L r : List α} {x : α} {n : Nat} (h : L.drop n = x :: r) : L.drop (n + 1) = r ∧ L[n]? = some x := by
  constructor
  · rw [← List.drop_drop, h]; rfl
  · have : (L.drop n)[0]? = some x := by rw [h]; rfl
    rwa [List.getElem?_drop, Nat.add_zero] at this
theorem re_ok (turn many : Int) (L : List (Nat × (Int × Int))) : ∀ (suf : List (Nat × (Int × Int))) (n : Nat), L.drop n = suf → okRun (reOk L) (reStp turn many) (n, false) suf
  | [], _, _ => trivial
  | (j, x) :: r, n, h => by
    obtain ⟨h2, h1⟩ := drop_next h
    refine ⟨⟨rfl, h1⟩, fun hs => ?_⟩
    have e : (reStp turn many (n, false) j x).1 = (n + 1, false) := by
      unfold reStp at hs ⊢
      split <;> simp_all
    rw [e]
    exact re_ok turn many L r (n + 1) h2
theorem re_run (turn many M : Int) (hM : (1 < many ∧ M = many) ∨ (many ≤ 1 ∧ M = 1)) (L : List (Nat × (Int × Int))) : ∀ (suf : List (Nat × (Int × Int))) (n : Nat), L.drop n = suf → n ≤ L.length → (n = 0 ∨ turn ≠ 0 ∨ (n : Int) < many) →
    ((turn = 0 → ((runY (reStp turn many) (n, false) suf).1 : Int) = if (L.length : Int) ≤ M then (L.length : Int) else M) ∧ (turn ≠ 0 → runY (reStp turn many) (n, false) suf = (L.length, false)))
  | [], n, h, hn, h0 => by
    have hl : L.length = n := by
      have := congrArg List.length h
      simp at this; omega
    simp only [runY]
    refine ⟨fun ht => ?_, fun _ => by rw [hl]⟩
    rcases hM with ⟨h1, rfl⟩ | ⟨h1, rfl⟩ <;> split <;> omega
  | (j, x) :: r, n, h, hn, h0 => by
    obtain ⟨h2, h1⟩ := drop_next h
    have hlt : n < L.length := (List.getElem?_eq_some_iff.1 h1).1
    by_cases hs : turn = 0 ∧ many ≤ (n : Int) + 1
    · have e : reStp turn many (n, false) j x = ((n + 1, true), false) := by simp only [reStp, hs, and_self, if_true]
      simp only [runY, e, Bool.false_eq_true, if_false]
      refine ⟨fun _ => ?_, fun ht => absurd hs.1 ht⟩
      obtain ⟨ht, hs2⟩ := hs
      have h0' : n = 0 ∨ (n : Int) < many := by
        rcases h0 with h0 | h0 | h0
        · exact .inl h0
        · exact absurd ht h0
        · exact .inr h0
      rcases hM with ⟨h1, rfl⟩ | ⟨h1, rfl⟩ <;> split <;> omega
    · have e : reStp turn many (n, false) j x = ((n + 1, false), true) := by simp only [reStp, hs, if_false]
      simp only [runY, e, if_true]
      refine re_run turn many M hM L r (n + 1) h2 (by omega) ?_
      by_cases ht : turn = 0
      · right; right
        have : ¬ many ≤ (n : Int) + 1 := fun hh => hs ⟨ht, hh⟩
        omega
      · exact .inr (.inl ht)
end Go.Proofs.Ytjlgpfolnhilfaa
