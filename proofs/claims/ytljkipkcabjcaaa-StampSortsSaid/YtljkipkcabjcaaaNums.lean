/-
  Whole numbers of a kind: their bounds, and where adding one doesn't go round.
-/
import Derived.Test.YtljkipkcabjcaaaKinds
namespace Go.Proofs.Ytljkipkcabjcaaa.Open
open Go.RowKit
theorem b_u64 {n : Int} (h : FU64 n) : 0 ≤ n ∧ n ≤ 18446744073709551615 := by
  unfold FU64 at h
  simp only [Lit.wf, IntKind.min, IntKind.max, IntKind.signed, IntKind.bits, Bool.and_eq_true] at h
  simp at h
  omega
theorem b_u32 {n : Int} (h : FU32 n) : 0 ≤ n ∧ n ≤ 4294967295 := by
  unfold FU32 at h
  simp only [Lit.wf, IntKind.min, IntKind.max, IntKind.signed, IntKind.bits, Bool.and_eq_true] at h
  simp at h
  omega
theorem wrap_u64 (n : Int) : IntKind.u64.wrap n = n % 18446744073709551616 := by
  simp [IntKind.wrap, IntKind.signed, IntKind.bits]
theorem wrap_up {i : Int} {n : Nat} (h0 : 0 ≤ i) (h : i < (n : Int)) (hn : n ≤ 140737488351232) : wrap64 (i + 1) = i + 1 := by
  unfold wrap64
  omega
end Go.Proofs.Ytljkipkcabjcaaa.Open
