/-
  The walks of Less and Compare to the very world behind the call: some draws, some new blocks, and nothing else.
-/
import Derived.Test.YtljkipkcabjcaaaPureSorts
import Derived.Sort.Grow
import Derived.Lib.Hide
import Derived.Outline
namespace Go.Proofs.Ytljkipkcabjcaaa.PStampSorts
set_option linter.unusedSimpArgs false
set_option linter.unusedVariables false
open Go.RowKit Go.Proofs.YtljkipkcabjcaaaW.PrintWords Go.Proofs.YtljkipkcabjcaaaW.PrintLast Go.Proofs.YtljkipkcabjcaaaW.PrintMore
attribute [local go_sem high] eqA25
/-- Some draws and some new blocks. -/
def Grew (w w' : World) : Prop := ∃ q os, w' = Sort.grow (w.drewN q) os
theorem Grew.refl (w : World) : Grew w w := ⟨0, #[], by simp [Sort.grow]; rfl⟩
theorem Grew.alloc {w w' : World} (h : Grew w w') (o : Obj) : Grew w (w'.alloc o) := by
  obtain ⟨q, os, rfl⟩ := h
  exact ⟨q, os.push o, by simp [Sort.grow, World.alloc, World.drewN]⟩
theorem Grew.drew {w w' : World} (h : Grew w w') : Grew w w'.drew := by
  obtain ⟨q, os, rfl⟩ := h
  exact ⟨q + 1, os, by simp [Sort.grow, World.drew, World.drewN]; omega⟩
theorem Grew.trans {a b c : World} (h : Grew a b) (k : Grew b c) : Grew a c := by
  obtain ⟨q, os, rfl⟩ := h
  obtain ⟨p, os', rfl⟩ := k
  exact ⟨q + p, os ++ os', by simp [Sort.grow, World.drewN, Array.append_assoc]; omega⟩
theorem Grew.below {w w' : World} (h : Grew w w') : Below w.heap.size w w' := by
  obtain ⟨q, os, rfl⟩ := h
  refine ⟨rfl, rfl, rfl, by simp [Sort.grow, World.drewN], fun k hk => ?_⟩
  simp only [Sort.grow, World.drewN]
  exact Array.getElem?_append_left hk
set_option maxHeartbeats 1000000 in
theorem less_grew (a b c d e f : Int) (w : World) : Calls Try.prog 16 #[.agg #[.int .u64 a, .int .u32 b, .int .u32 c], .agg #[.int .u64 d, .int .u32 e, .int .u32 f]] w fun e' w' => e' = .returned (.bool (lt ⟨a, b, c⟩ ⟨d, e, f⟩)) ∧ Grew w w' := by
  have hu25 := Try.underlying25
  by_cases h1 : a = d
  · subst h1
    by_cases h2 : b = e
    · subst h2
      have hl : lt ⟨a, b, c⟩ ⟨a, b, f⟩ = decide (c < f) := by simp [lt]
      have HL := Lib.hid hl
      clear hl
      go_enter Try.func16, Try.ntmps16
      go_wp2_with fail
      go_ret
      exact ⟨by rw [HL.out]; rfl, (by repeat (first | exact Grew.refl _ | refine Grew.alloc ?_ _ | refine Grew.drew ?_))⟩
    · have n1 : (b == e) = false := beq_eq_false_iff_ne.2 h2
      have n2 : (b != e) = true := bne_iff_ne.2 h2
      have hl : lt ⟨a, b, c⟩ ⟨a, e, f⟩ = decide (b < e) := by simp [lt, h2]
      have HL := Lib.hid hl
      clear hl
      go_enter Try.func16, Try.ntmps16
      go_wp2_with fail
      go_ret
      exact ⟨by rw [HL.out]; rfl, (by repeat (first | exact Grew.refl _ | refine Grew.alloc ?_ _ | refine Grew.drew ?_))⟩
  · have n1 : (a == d) = false := beq_eq_false_iff_ne.2 h1
    have n2 : (a != d) = true := bne_iff_ne.2 h1
    have hl : lt ⟨a, b, c⟩ ⟨d, e, f⟩ = decide (a < d) := by simp [lt, h1]
    have HL := Lib.hid hl
    clear hl
    go_enter Try.func16, Try.ntmps16
    go_wp2_with fail
    go_ret
    exact ⟨by rw [HL.out]; rfl, (by repeat (first | exact Grew.refl _ | refine Grew.alloc ?_ _ | refine Grew.drew ?_))⟩
/-- What Compare tells. -/
def cmp (x y : S25) : Int := if x.f0 = y.f0 ∧ x.f1 = y.f1 ∧ x.f2 = y.f2 then 0 else if lt x y = true then -1 else 1
theorem cmp_lt (x y : S25) : decide (cmp x y < 0) = lt x y := by
  unfold cmp
  by_cases h : x.f0 = y.f0 ∧ x.f1 = y.f1 ∧ x.f2 = y.f2
  · rw [if_pos h]
    have : lt x y = false := by
      simp only [lt, decide_eq_false_iff_not]
      omega
    rw [this]
    rfl
  · rw [if_neg h]
    by_cases h2 : lt x y = true
    · rw [if_pos h2, h2]
      rfl
    · rw [if_neg h2]
      simp only [Bool.not_eq_true] at h2
      rw [h2]
      rfl
set_option maxHeartbeats 1000000 in
theorem compare_grew (a b c d e f : Int) (w : World) : Calls Try.prog 14 #[.agg #[.int .u64 a, .int .u32 b, .int .u32 c], .agg #[.int .u64 d, .int .u32 e, .int .u32 f]] w fun e' w' => e' = .returned (.int .i64 (cmp ⟨a, b, c⟩ ⟨d, e, f⟩)) ∧ Grew w w' := by
  have hu25 := Try.underlying25
  by_cases h : a = d ∧ b = e ∧ c = f
  · obtain ⟨rfl, rfl, rfl⟩ := h
    have hl : cmp ⟨a, b, c⟩ ⟨a, b, c⟩ = 0 := by simp [cmp]
    have HL := Lib.hid hl
    clear hl
    go_enter Try.func14, Try.ntmps14
    go_wp2_with fail
    go_ret
    exact ⟨by rw [HL.out]; rfl, (by repeat (first | exact Grew.refl _ | refine Grew.alloc ?_ _ | refine Grew.drew ?_))⟩
  · have hq : (a == d && (b == e && c == f)) = false := by
      rw [Bool.eq_false_iff]
      intro h'
      simp only [Bool.and_eq_true, beq_iff_eq] at h'
      exact h h'
    have CL := less_grew a b c d e f
    by_cases hl : lt ⟨a, b, c⟩ ⟨d, e, f⟩ = true
    · have hc : cmp ⟨a, b, c⟩ ⟨d, e, f⟩ = -1 := by unfold cmp; rw [if_neg h, if_pos hl]
      rw [hl] at CL
      have HC := Lib.hid hc
      replace CL := Lib.hid CL
      clear hc hl h
      go_enter Try.func14, Try.ntmps14
      go_wp2_with fail
      refine (CL.out _).mono ?_
      rintro e' w' ⟨rfl, hg⟩
      go_wp2_with fail
      go_ret
      exact ⟨by rw [HC.out]; rfl, Grew.trans (by repeat (first | exact Grew.refl _ | refine Grew.alloc ?_ _ | refine Grew.drew ?_)) hg⟩
    · have hc : cmp ⟨a, b, c⟩ ⟨d, e, f⟩ = 1 := by unfold cmp; rw [if_neg h, if_neg hl]
      simp only [Bool.not_eq_true] at hl
      rw [hl] at CL
      have HC := Lib.hid hc
      replace CL := Lib.hid CL
      clear hc hl h
      go_enter Try.func14, Try.ntmps14
      go_wp2_with fail
      refine (CL.out _).mono ?_
      rintro e' w' ⟨rfl, hg⟩
      go_wp2_with fail
      go_ret
      exact ⟨by rw [HC.out]; rfl, Grew.trans (by repeat (first | exact Grew.refl _ | refine Grew.alloc ?_ _ | refine Grew.drew ?_)) hg⟩
end Go.Proofs.Ytljkipkcabjcaaa.PStampSorts
