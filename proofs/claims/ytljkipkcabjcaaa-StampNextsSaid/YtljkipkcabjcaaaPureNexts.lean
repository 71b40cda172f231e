/-
  StampNexts over plain numbers: asked again and again from any stamp at nodes in turn, the program's Next and the document's tell the same stamp and the same error.
-/
import Derived.Test.YtljkipkcabjcaaaPStampNextsx
import Derived.Test.YtljkipkcabjcaaaNums
namespace Go.Proofs.Ytljkipkcabjcaaa.PStampNexts
open Go.RowKit Go.Proofs.Ytljkipkcabjcaaa.Open Go.Proofs.YtljkipkcabjcaaaW.PrintWords
theorem next_eq (a b c n : Int) (h : 0 ≤ a) (h2 : a ≤ 18446744073709551615) : tidemarkref1_Next.f a b c n = stamp_Next.f a b c n := by
  unfold tidemarkref1_Next.f stamp_Next.f
  simp only [wrap_u64]
  by_cases h3 : a = 18446744073709551615
  · rw [if_pos h3, if_pos h3]
  · rw [if_neg h3, if_neg h3]
    split
    · rfl
    · by_cases h4 : a = 18446744073709551614
      · rw [if_pos h4, if_pos (by omega)]
      · rw [if_neg h4, if_neg (by omega)]
theorem next_some (a b c n : Int) (h : 0 ≤ a) (h2 : a ≤ 18446744073709551615) : ∃ p q r e, stamp_Next.f a b c n = some (p, q, r, e) ∧ 0 ≤ p ∧ p ≤ 18446744073709551615 := by
  unfold stamp_Next.f
  simp only [wrap_u64]
  split
  · exact ⟨_, _, _, _, rfl, by omega, by omega⟩
  · split
    · exact ⟨_, _, _, _, rfl, by omega, by omega⟩
    · split
      · exact ⟨_, _, _, _, rfl, by omega, by omega⟩
      · exact ⟨_, _, _, _, rfl, by omega, by omega⟩
theorem nexts_loop (l : List Int) (hl : l.length ≤ 140737488351232) (p q r : Int) (d : Nat) : ∀ (k : Nat) (i a b c : Int), 0 ≤ i → i ≤ l.length → (l.length : Int) - i = d → 2 * d < k → 0 ≤ a → a ≤ 18446744073709551615 →
    tidemarklaw1_StampNexts.l0 k i p q r l a b c = some true := by
  induction d with
  | zero =>
    intro k i a b c h0 h1 hd hk ha hb
    obtain ⟨k, rfl⟩ : ∃ m, k = m + 1 := ⟨k - 1, by omega⟩
    simp only [tidemarklaw1_StampNexts.l0]
    rw [if_neg (by omega)]
  | succ d ih =>
    intro k i a b c h0 h1 hd hk ha hb
    obtain ⟨k, rfl⟩ : ∃ m, k = m + 2 := ⟨k - 2, by omega⟩
    have hlt : i < (l.length : Int) := by omega
    obtain ⟨x, y, z, e, hn, hx, hx2⟩ := next_some a b c (rd l i) ha hb
    simp only [tidemarklaw1_StampNexts.l0]
    rw [if_pos hlt, if_pos h0, next_eq _ _ _ _ ha hb, hn]
    simp only [Option.bind_some, beq_self_eq_true, Bool.not_true, Bool.or_self, Bool.false_eq_true, if_false, bne_self_eq_false]
    simp only [tidemarklaw1_StampNexts.j1, Bool.false_eq_true, if_false]
    rw [wrap_up h0 hlt hl]
    split
    · exact ih k (i + 1) x y z (by omega) (by omega) (by omega) (by omega) hx hx2
    · exact ih k (i + 1) a b c (by omega) (by omega) (by omega) (by omega) ha hb
theorem nexts (l : List Int) (hl : l.length ≤ 140737488351232) (a b c : Int) (ha : 0 ≤ a) (hb : a ≤ 18446744073709551615) :
    tidemarklaw1_StampNexts.f (2 * l.length + 1) a b c l = some true := by
  unfold tidemarklaw1_StampNexts.f
  exact nexts_loop l hl a b c l.length _ 0 a b c (by omega) (by omega) (by omega) (by omega) ha hb
end Go.Proofs.Ytljkipkcabjcaaa.PStampNexts
