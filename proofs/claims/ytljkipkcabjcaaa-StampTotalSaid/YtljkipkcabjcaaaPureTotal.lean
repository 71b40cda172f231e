/-
  StampTotal over plain numbers: Less is a strict total order of stamps, and Compare is 0 just for one and the same.
-/
import Derived.Test.YtljkipkcabjcaaaPStampTotalx
namespace Go.Proofs.Ytljkipkcabjcaaa.PStampTotal
theorem less_is (a b c d e f : Int) : stamp_Less.f a b c d e f = some (decide (a < d ∨ (a = d ∧ (b < e ∨ (b = e ∧ c < f))))) := by
  unfold stamp_Less.f
  split
  · split <;> simp only [Option.some.injEq, decide_eq_decide] <;> omega
  · simp only [Option.some.injEq, decide_eq_decide]; omega
theorem compare_is (a b c d e f : Int) : stamp_Compare.f a b c d e f = some (if a = d ∧ b = e ∧ c = f then 0 else if a < d ∨ (a = d ∧ (b < e ∨ (b = e ∧ c < f))) then -1 else 1) := by
  unfold stamp_Compare.f
  rw [less_is]
  by_cases h : a = d ∧ b = e ∧ c = f
  · obtain ⟨rfl, rfl, rfl⟩ := h
    simp
  · rw [if_neg h]
    have : ¬ ((a == d && (b == e && c == f)) = true) := by
      intro h'
      simp only [Bool.and_eq_true, beq_iff_eq] at h'
      exact h h'
    rw [if_neg this]
    simp only [Option.bind_some, decide_eq_true_eq]
    split <;> rfl
theorem step1 (a b c d e f g h i : Int) : tidemarklaw1_StampTotal.j1 1 false a b c d e f g h i = some true := by
  unfold tidemarklaw1_StampTotal.j1
  simp only [Bool.false_eq_true, if_false, less_is, Option.bind_some, decide_eq_true_eq]
  split
  · split
    · simp only [Option.some.injEq, decide_eq_true_eq]; omega
    · rfl
  · rfl
theorem step0 (a b c d e f g h i : Int) : tidemarklaw1_StampTotal.j0 2 false a b c d e f g h i = some true := by
  unfold tidemarklaw1_StampTotal.j0
  simp only [Bool.false_eq_true, if_false, less_is, compare_is, Option.bind_some, decide_eq_true_eq]
  rw [if_neg (by omega)]
  have : ((((if a = d ∧ b = e ∧ c = f then 0 else if a < d ∨ (a = d ∧ (b < e ∨ (b = e ∧ c < f))) then -1 else 1) : Int) == 0) != (a == d && (b == e && c == f))) = false := by
    by_cases h : a = d ∧ b = e ∧ c = f
    · obtain ⟨rfl, rfl, rfl⟩ := h
      simp
    · have h2 : (a == d && (b == e && c == f)) = false := by
        rw [Bool.eq_false_iff]
        intro h'
        simp only [Bool.and_eq_true, beq_iff_eq] at h'
        exact h h'
      rw [if_neg h, h2]
      split <;> rfl
  rw [this]
  exact step1 a b c d e f g h i
theorem total (a b c d e f g h i : Int) : tidemarklaw1_StampTotal.f 2 a b c d e f g h i = some true := by
  unfold tidemarklaw1_StampTotal.f
  split
  · rename_i hne
    simp only [less_is, Option.bind_some]
    have h2 : ¬ (a = d ∧ b = e ∧ c = f) := by
      rintro ⟨rfl, rfl, rfl⟩
      simp at hne
    have : (decide (a < d ∨ (a = d ∧ (b < e ∨ (b = e ∧ c < f)))) == decide (d < a ∨ (d = a ∧ (e < b ∨ (e = b ∧ f < c))))) = false := by
      rw [beq_eq_false_iff_ne, ne_eq, decide_eq_decide]
      omega
    rw [this]
    exact step0 a b c d e f g h i
  · exact step0 a b c d e f g h i
end Go.Proofs.Ytljkipkcabjcaaa.PStampTotal
