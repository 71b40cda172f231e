/-
  StampCompares over plain numbers: Compare and Less of the program and of the document tell the same, whatever the two stamps are.
-/
import Derived.Test.YtljkipkcabjcaaaPStampComparesx
namespace Go.Proofs.Ytljkipkcabjcaaa.PStampCompares
theorem less_is (a b c d e f : Int) : stamp_Less.f a b c d e f = some (decide (a < d ∨ (a = d ∧ (b < e ∨ (b = e ∧ c < f))))) := by
  unfold stamp_Less.f
  split
  · split <;> simp only [Option.some.injEq, decide_eq_decide] <;> omega
  · simp only [Option.some.injEq, decide_eq_decide]; omega
theorem less_ref (a b c d e f : Int) : tidemarkref1_Less.f a b c d e f = stamp_Less.f a b c d e f := by
  rw [less_is]
  unfold tidemarkref1_Less.f
  split
  · rename_i h
    simp [h]
  · split
    · split
      · rename_i h1 h2 h3
        simp [h2, h3]
      · split
        · simp only [Option.some.injEq, decide_eq_decide]; omega
        · rename_i h1 h2 h3 h4
          have : ¬ (a < d ∨ (a = d ∧ (b < e ∨ (b = e ∧ c < f)))) := by omega
          simp only [this, decide_false]
    · rename_i h1 h2
      have : ¬ (a < d ∨ (a = d ∧ (b < e ∨ (b = e ∧ c < f)))) := by omega
      simp only [this, decide_false]
theorem compare_is (a b c d e f : Int) : stamp_Compare.f a b c d e f = some (if a = d ∧ b = e ∧ c = f then 0 else if a < d ∨ (a = d ∧ (b < e ∨ (b = e ∧ c < f))) then -1 else 1) := by
  unfold stamp_Compare.f
  rw [less_is]
  by_cases h : a = d ∧ b = e ∧ c = f
  · obtain ⟨rfl, rfl, rfl⟩ := h
    simp
  · rw [if_neg h]
    have : ¬ ((a == d && (b == e && c == f)) = true) := by
      intro h'
      simp only [Bool.and_eq_true, beq_iff_eq] at h'
      exact h h'
    rw [if_neg this]
    simp only [Option.bind_some, decide_eq_true_eq]
    split <;> rfl
theorem compare_ref (a b c d e f : Int) : tidemarkref1_Compare.f a b c d e f = stamp_Compare.f a b c d e f := by
  rw [compare_is]
  unfold tidemarkref1_Compare.f
  rw [less_ref, less_ref, less_is, less_is]
  simp only [Option.bind_some, decide_eq_true_eq]
  by_cases h : a < d ∨ (a = d ∧ (b < e ∨ (b = e ∧ c < f)))
  · rw [if_pos h, if_neg (by omega), if_pos h]
  · rw [if_neg h, if_neg h]
    by_cases h2 : d < a ∨ (d = a ∧ (e < b ∨ (e = b ∧ f < c)))
    · rw [if_pos h2, if_neg (by omega)]
    · rw [if_neg h2, if_pos (by omega)]
theorem compares (a b c d e f : Int) : tidemarklaw1_StampCompares.f 2 a b c d e f = some true := by
  unfold tidemarklaw1_StampCompares.f
  rw [compare_ref, compare_ref, compare_is, compare_is]
  simp only [Option.bind_some, if_true, bne_self_eq_false]
  simp [tidemarklaw1_StampCompares.j0, tidemarklaw1_StampCompares.j1, less_ref, less_is, compare_is]
end Go.Proofs.Ytljkipkcabjcaaa.PStampCompares
