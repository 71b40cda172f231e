/-
  What the document's Parse adds up, byte by byte; of a stamp's text it is the stamp.
-/
import Derived.Test.YtljkipkcabjcaaaDoorParseLaw
namespace Go.Proofs.YtljkipkcabjcaaaDoor.PStampParses
open Go.RowKit Go.Proofs.YtljkipkcabjcaaaDoorW.PrintWords
set_option linter.unusedVariables false
set_option linter.unusedSimpArgs false
/-- One byte more behind a number, round the end where it must. -/
def stp (v : Nat) (c : UInt8) : Nat := (v * 10 + c.toNat + 18446744073709551568) % 18446744073709551616
/-- The points so far, and three numbers. -/
structure Sum where
  k : Nat
  a : Nat
  b : Nat
  c : Nat
def stepS (x : Sum) (c : UInt8) : Sum := if c = 46 then ⟨x.k + 1, x.a, x.b, x.c⟩ else if x.k = 0 then ⟨x.k, stp x.a c, x.b, x.c⟩ else if x.k = 1 then ⟨x.k, x.a, stp x.b c, x.c⟩ else ⟨x.k, x.a, x.b, stp x.c c⟩
def sums (l : List UInt8) : Sum := l.foldl stepS ⟨0, 0, 0, 0⟩
theorem sums_snoc (l : List UInt8) (c : UInt8) : sums (l ++ [c]) = stepS (sums l) c := by
  unfold sums
  rw [List.foldl_append]
  rfl
theorem sums_k (l : List UInt8) : ∀ x : Sum, (l.foldl stepS x).k = x.k + l.count 46 := by
  induction l with
  | nil => intro x; rfl
  | cons c r ih =>
    intro x
    rw [List.foldl_cons, ih]
    unfold stepS
    by_cases h : c = 46
    · subst h
      rw [if_pos rfl, List.count_cons_self]
      show x.k + 1 + _ = _
      omega
    · rw [if_neg h, List.count_cons_of_ne (by simpa using h)]
      split
      · rfl
      · split <;> rfl
theorem stp_digit {v : Nat} {c : UInt8} (hc : 48 ≤ c.toNat ∧ c.toNat ≤ 57) (hv : v * 10 + (c.toNat - 48) ≤ 18446744073709551615) : stp v c = v * 10 + (c.toNat - 48) := by
  unfold stp
  omega
theorem fold_a : ∀ (l : List UInt8) (a b c : Nat), Dig l → val a l ≤ 18446744073709551615 → l.foldl stepS ⟨0, a, b, c⟩ = ⟨0, val a l, b, c⟩
  | [], a, b, c, _, _ => rfl
  | x :: r, a, b, c, hd, hv => by
    have hx := hd x (by simp)
    rw [val_cons] at hv
    have hle := val_le r (a * 10 + (x.toNat - 48))
    have hne : x ≠ 46 := fun e => by rw [e] at hx; have h46 : (46 : UInt8).toNat = 46 := rfl; omega
    have hs : stp a x = a * 10 + (x.toNat - 48) := stp_digit hx (by omega)
    rw [List.foldl_cons, stepS, if_neg hne, if_pos rfl, val_cons]
    show List.foldl stepS ⟨0, stp a x, b, c⟩ r = _
    rw [hs]
    exact fold_a r _ b c (fun y hy => hd y (by simp [hy])) hv
theorem fold_b : ∀ (l : List UInt8) (a b c : Nat), Dig l → val b l ≤ 18446744073709551615 → l.foldl stepS ⟨1, a, b, c⟩ = ⟨1, a, val b l, c⟩
  | [], a, b, c, _, _ => rfl
  | x :: r, a, b, c, hd, hv => by
    have hx := hd x (by simp)
    rw [val_cons] at hv
    have hle := val_le r (b * 10 + (x.toNat - 48))
    have hne : x ≠ 46 := fun e => by rw [e] at hx; have h46 : (46 : UInt8).toNat = 46 := rfl; omega
    have hs : stp b x = b * 10 + (x.toNat - 48) := stp_digit hx (by omega)
    rw [List.foldl_cons, stepS, if_neg hne, if_neg (by simp), if_pos rfl, val_cons]
    show List.foldl stepS ⟨1, a, stp b x, c⟩ r = _
    rw [hs]
    exact fold_b r a _ c (fun y hy => hd y (by simp [hy])) hv
theorem fold_c : ∀ (l : List UInt8) (a b c : Nat), Dig l → val c l ≤ 18446744073709551615 → l.foldl stepS ⟨2, a, b, c⟩ = ⟨2, a, b, val c l⟩
  | [], a, b, c, _, _ => rfl
  | x :: r, a, b, c, hd, hv => by
    have hx := hd x (by simp)
    rw [val_cons] at hv
    have hle := val_le r (c * 10 + (x.toNat - 48))
    have hne : x ≠ 46 := fun e => by rw [e] at hx; have h46 : (46 : UInt8).toNat = 46 := rfl; omega
    have hs : stp c x = c * 10 + (x.toNat - 48) := stp_digit hx (by omega)
    rw [List.foldl_cons, stepS, if_neg hne, if_neg (by simp), if_neg (by simp), val_cons]
    show List.foldl stepS ⟨2, a, b, stp c x⟩ r = _
    rw [hs]
    exact fold_c r a b _ (fun y hy => hd y (by simp [hy])) hv
theorem sums_text (a b c : Nat) (ha : a ≤ 18446744073709551615) (hb : b ≤ 4294967295) (hc : c ≤ 4294967295) : sums (Lib.decDigits a ++ 46 :: (Lib.decDigits b ++ 46 :: Lib.decDigits c)) = ⟨2, a, b, c⟩ := by
  obtain ⟨a1, a2, _⟩ := dec_can a
  obtain ⟨b1, b2, _⟩ := dec_can b
  obtain ⟨c1, c2, _⟩ := dec_can c
  unfold sums
  rw [List.foldl_append, fold_a _ 0 0 0 a1.2.2 (by omega), a2, List.foldl_cons, stepS, if_pos rfl]
  rw [List.foldl_append, fold_b _ a 0 0 b1.2.2 (by omega), b2, List.foldl_cons, stepS, if_pos rfl]
  rw [fold_c _ a b 0 c1.2.2 (by omega), c2]
theorem sums_isText {s : ByteArray} {a b c : Nat} (h : IsText s a b c) : sums s.data.toList = ⟨2, a, b, c⟩ := by
  have e : s.data.toList = Lib.decDigits a ++ 46 :: (Lib.decDigits b ++ 46 :: Lib.decDigits c) := by rw [h.1]; simp [tB, bA]
  rw [e]
  exact sums_text a b c h.2.1 h.2.2.1 h.2.2.2
/-- Three points: no stamp's text. -/
theorem three_points {s : ByteArray} {j : Nat} (hk : 2 < (sums (s.data.toList.take j)).k) (a b c : Nat) : ¬ IsText s a b c := fun h => by
  have h1 := sums_k (s.data.toList.take j) ⟨0, 0, 0, 0⟩
  have h2 := sums_k s.data.toList ⟨0, 0, 0, 0⟩
  have h3 := sums_isText h
  unfold sums at h3 hk
  rw [h3] at h2
  have h4 : (s.data.toList.take j).count 46 ≤ s.data.toList.count 46 := (List.take_sublist j _).count_le 46
  simp only at h1 h2
  omega
/-- A text that isn't what its sums tell: no stamp's text. -/
theorem not_back {s : ByteArray} {x : Sum} (hx : sums s.data.toList = x) (hb : tB x.a (x.b % 4294967296) (x.c % 4294967296) ≠ s) (a b c : Nat) : ¬ IsText s a b c := fun h => by
  have h3 := sums_isText h
  rw [h3] at hx
  subst hx
  refine hb ?_
  have h1 := h.2.2.1
  have h2 := h.2.2.2
  show tB a (b % 4294967296) (c % 4294967296) = s
  rw [Nat.mod_eq_of_lt (by omega), Nat.mod_eq_of_lt (by omega)]
  exact h.1.symm
theorem stp_lt (v : Nat) (c : UInt8) : stp v c < 18446744073709551616 := Nat.mod_lt _ (by omega)
theorem stp_wrap (v : Nat) (c : UInt8) : IntKind.u64.wrap (IntKind.u64.wrap (IntKind.u64.wrap ((v : Int) * 10) + IntKind.u64.wrap (c.toNat : Int)) - 48) = (stp v c : Int) := by
  simp only [IntKind.wrap_u64]
  unfold stp
  have := c.toNat_lt
  omega
end Go.Proofs.YtljkipkcabjcaaaDoor.PStampParses
