/-
  Next over plain numbers: what it answers without an error is above, has the asked node and never the top wall; it refuses only at the end of the numbers.
-/
import Derived.Test.YtljkipkcabjcaaaPStampClimbsx2
import Derived.Test.YtljkipkcabjcaaaNums
namespace Go.Proofs.Ytljkipkcabjcaaa.PStampClimbs
set_option linter.unusedSimpArgs false
set_option linter.unusedVariables false
open Go.RowKit Go.Proofs.Ytljkipkcabjcaaa.Open
theorem next_cases (a b c n : Int) (ha : 0 ≤ a ∧ a ≤ 18446744073709551615) (hb : 0 ≤ b ∧ b ≤ 4294967295) :
    (stamp_Next.f a b c n = some (0, 0, 0, 11) ∧ (a = 18446744073709551615 ∨ (a = 18446744073709551614 ∧ b = 4294967295))) ∨
    ∃ p q, stamp_Next.f a b c n = some (p, q, n, 0) ∧ (a < p ∨ (a = p ∧ b < q)) ∧ (0 ≤ p ∧ p ≤ 18446744073709551614) ∧ (0 ≤ q ∧ q ≤ 4294967295) := by
  unfold stamp_Next.f
  simp only [wrap_u64]
  by_cases h1 : a = 18446744073709551615
  · rw [if_pos h1]
    exact .inl ⟨rfl, .inl h1⟩
  · rw [if_neg h1]
    by_cases h2 : b < 4294967295
    · rw [if_pos h2]
      exact .inr ⟨_, _, rfl, .inr ⟨rfl, by omega⟩, by omega, by omega⟩
    · rw [if_neg h2]
      by_cases h3 : (a + 1) % 18446744073709551616 = 18446744073709551615
      · rw [if_pos h3]
        exact .inl ⟨rfl, .inr ⟨by omega, by omega⟩⟩
      · rw [if_neg h3]
        exact .inr ⟨_, _, rfl, .inl (by omega), by omega, by omega⟩
theorem less_yes (a b c p q n : Int) (h : a < p ∨ (a = p ∧ b < q)) : stamp_Less.f a b c p q n = some true := by
  unfold stamp_Less.f
  by_cases h1 : a = p
  · rw [if_pos h1, if_neg (by omega)]
    simp only [Option.some.injEq, decide_eq_true_eq]
    omega
  · rw [if_neg h1]
    simp only [Option.some.injEq, decide_eq_true_eq]
    omega
theorem compare_up (a b c p q n : Int) (h : a < p ∨ (a = p ∧ b < q)) : stamp_Compare.f p q n a b c = some 1 := by
  unfold stamp_Compare.f
  rw [if_neg (by
    intro h'
    simp only [Bool.and_eq_true, beq_iff_eq] at h'
    omega)]
  have : stamp_Less.f p q n a b c = some false := by
    unfold stamp_Less.f
    by_cases h1 : p = a
    · rw [if_pos h1, if_neg (by omega)]
      simp only [Option.some.injEq, decide_eq_false_iff_not]
      omega
    · rw [if_neg h1]
      simp only [Option.some.injEq, decide_eq_false_iff_not]
      omega
  rw [this]
  rfl
end Go.Proofs.Ytljkipkcabjcaaa.PStampClimbs
