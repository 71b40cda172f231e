/-
  Packed stamps over plain lists: they sort byte by byte as the stamps do, and two are alike just if the stamps are.
-/
import Derived.Test.YtljkipkcabjcaaaPurePack
import Derived.Laws.Strings
namespace Go.Proofs.Ytljkipkcabjcaaa.Arr
set_option linter.unusedSimpArgs false
set_option linter.unusedVariables false
open Go.RowKit Go.Proofs.YtljkipkcabjcaaaW.PrintWords
def ltL : List Int → List Int → Bool
  | _, [] => false
  | [], _ :: _ => true
  | a :: x, b :: y => decide (a < b) || (a == b && ltL x y)
theorem ltL_append : ∀ (xs ys xs' ys' : List Int), xs.length = ys.length → ltL (xs ++ xs') (ys ++ ys') = (ltL xs ys || (xs == ys && ltL xs' ys'))
  | [], [], xs', ys', _ => by simp [ltL]
  | a :: xs, b :: ys, xs', ys', h => by
    have ih := ltL_append xs ys xs' ys' (by simpa using h)
    simp only [List.cons_append, ltL, ih]
    by_cases e : a = b
    · subst e
      simp
    · have : ((a :: xs) == (b :: ys)) = false := by simp [e]
      rw [this]
      have e' : (a == b) = false := by simp [e]
      rw [e']
      simp
theorem be_inj (n : Nat) : ∀ u v : Int, 0 ≤ u → u < 256 ^ n → 0 ≤ v → v < 256 ^ n → be n u = be n v → u = v := by
  induction n with
  | zero => intro u v h0 h1 h2 h3 _; simp at h1 h3; omega
  | succ n ih =>
    intro u v h0 h1 h2 h3 h
    have hp : (256 : Int) ^ (n + 1) = 256 ^ n * 256 := Int.pow_succ _ _
    simp only [be] at h
    obtain ⟨e1, e2⟩ := List.append_inj' h rfl
    have := ih (u / 256) (v / 256) (by omega) (by omega) (by omega) (by omega) e1
    simp at e2
    omega
theorem be_eq (n : Nat) (u v : Int) (h0 : 0 ≤ u) (h1 : u < 256 ^ n) (h2 : 0 ≤ v) (h3 : v < 256 ^ n) : (be n u == be n v) = decide (u = v) := by
  by_cases h : u = v
  · subst h; simp
  · have : be n u ≠ be n v := fun e => h (be_inj n u v h0 h1 h2 h3 e)
    simp [h, this]
theorem ltL_be (n : Nat) : ∀ u v : Int, 0 ≤ u → u < 256 ^ n → 0 ≤ v → v < 256 ^ n → ltL (be n u) (be n v) = decide (u < v) := by
  induction n with
  | zero => intro u v h0 h1 h2 h3; simp at h1 h3; have : ¬ u < v := by omega
            simp [be, ltL, this]
  | succ n ih =>
    intro u v h0 h1 h2 h3
    have hp : (256 : Int) ^ (n + 1) = 256 ^ n * 256 := Int.pow_succ _ _
    simp only [be]
    rw [ltL_append _ _ _ _ (by rw [be_length, be_length]), ih _ _ (by omega) (by omega) (by omega) (by omega), be_eq n _ _ (by omega) (by omega) (by omega) (by omega)]
    have e : ltL [u % 256] [v % 256] = decide (u % 256 < v % 256) := by simp [ltL]
    rw [e, ← Bool.decide_and, ← Bool.decide_or, decide_eq_decide]
    omega
theorem pack_lt (a b c d e f : Int) (ha : 0 ≤ a ∧ a ≤ 18446744073709551615) (hb : 0 ≤ b ∧ b ≤ 4294967295) (hc : 0 ≤ c ∧ c ≤ 4294967295)
    (hd : 0 ≤ d ∧ d ≤ 18446744073709551615) (he : 0 ≤ e ∧ e ≤ 4294967295) (hf : 0 ≤ f ∧ f ≤ 4294967295) :
    ltL (packL a b c) (packL d e f) = decide (a < d ∨ (a = d ∧ (b < e ∨ (b = e ∧ c < f)))) := by
  have p8 : (256 : Int) ^ 8 = 18446744073709551616 := rfl
  have p4 : (256 : Int) ^ 4 = 4294967296 := rfl
  rw [packL_be, packL_be, List.append_assoc, List.append_assoc, ltL_append _ _ _ _ (by rw [be_length, be_length]), ltL_append _ _ _ _ (by rw [be_length, be_length])]
  rw [ltL_be 8 a d ha.1 (by omega) hd.1 (by omega), ltL_be 4 b e hb.1 (by omega) he.1 (by omega), ltL_be 4 c f hc.1 (by omega) hf.1 (by omega), be_eq 8 a d ha.1 (by omega) hd.1 (by omega), be_eq 4 b e hb.1 (by omega) he.1 (by omega)]
  simp only [← Bool.decide_and, ← Bool.decide_or]
theorem pack_inj (a b c d e f : Int) (ha : 0 ≤ a ∧ a ≤ 18446744073709551615) (hb : 0 ≤ b ∧ b ≤ 4294967295) (hc : 0 ≤ c ∧ c ≤ 4294967295)
    (hd : 0 ≤ d ∧ d ≤ 18446744073709551615) (he : 0 ≤ e ∧ e ≤ 4294967295) (hf : 0 ≤ f ∧ f ≤ 4294967295) (h : strOfNums (packL a b c) = strOfNums (packL d e f)) : a = d ∧ b = e ∧ c = f := by
  have h1 := stampOf_pack a b c ha hb hc
  rw [h, stampOf_pack d e f hd he hf] at h1
  simp only [Prod.mk.injEq] at h1
  obtain ⟨rfl, rfl, rfl⟩ := h1
  exact ⟨rfl, rfl, rfl⟩
theorem pack_range (a b c : Int) : ∀ x ∈ packL a b c, 0 ≤ x ∧ x ≤ 255 := by
  rw [packL_be]
  intro x hx
  simp only [List.mem_append] at hx
  rcases hx with (hx | hx) | hx
  · exact be_range _ _ x hx
  · exact be_range _ _ x hx
  · exact be_range _ _ x hx
theorem bytesLess_ltL : ∀ (xs ys : List Int), (∀ x ∈ xs, 0 ≤ x ∧ x ≤ 255) → (∀ x ∈ ys, 0 ≤ x ∧ x ≤ 255) → Op.bytesLess (xs.map fun n => UInt8.ofNat n.toNat) (ys.map fun n => UInt8.ofNat n.toNat) = ltL xs ys
  | _, [], _, _ => by simp [Op.bytesLess, ltL]
  | [], b :: ys, _, _ => by simp [Op.bytesLess, ltL]
  | a :: xs, b :: ys, h1, h2 => by
    have ha := h1 a (by simp)
    have hb := h2 b (by simp)
    simp only [List.map_cons, Op.bytesLess, ltL]
    rw [bytesLess_ltL xs ys (fun x hx => h1 x (by simp [hx])) (fun x hx => h2 x (by simp [hx]))]
    have e1 : decide (UInt8.ofNat a.toNat < UInt8.ofNat b.toNat) = decide (a < b) := by
      rw [decide_eq_decide, UInt8.lt_iff_toNat_lt]
      simp
      omega
    have e2 : (UInt8.ofNat a.toNat == UInt8.ofNat b.toNat) = (a == b) := by
      rw [Bool.eq_iff_iff, beq_iff_eq, beq_iff_eq, ← UInt8.toNat_inj]
      simp
      omega
    rw [e1, e2]
end Go.Proofs.Ytljkipkcabjcaaa.Arr
