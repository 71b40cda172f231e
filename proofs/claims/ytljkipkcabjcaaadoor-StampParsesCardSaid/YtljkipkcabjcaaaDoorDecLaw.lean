/-
  The document's Decimal over plain numbers: the decimal numeral.
-/
import Derived.Test.YtljkipkcabjcaaaDoorDec
import Derived.Lib.ItoaNum
import Derived.Laws.Concat
namespace Go.Proofs.YtljkipkcabjcaaaDoor.PStampParses
open Go.RowKit Go.Proofs.YtljkipkcabjcaaaDoorW.PrintWords
set_option linter.unusedVariables false
set_option linter.unusedSimpArgs false
def bA (l : List UInt8) : ByteArray := ⟨l.toArray⟩
theorem bA_append (l m : List UInt8) : bA (l ++ m) = bA l ++ bA m := (ByteArray.mk_append_mk l m).symm
theorem bA_size (l : List UInt8) : (bA l).size = l.length := by simp [bA, ByteArray.size]
theorem bA_data (s : ByteArray) : bA s.data.toList = s := by simp [bA]
theorem bA_inj {l m : List UInt8} (h : bA l = bA m) : l = m := by
  have : (bA l).data.toList = (bA m).data.toList := by rw [h]
  simpa [bA] using this
/-- A number's numeral. -/
def dB (u : Nat) : ByteArray := bA (Lib.decDigits u)
def pre (u : Nat) : List UInt8 := if u < 10 then [] else Lib.decDigits (u / 10)
theorem dec_pre (u : Nat) : Lib.decDigits u = pre u ++ [UInt8.ofNat (48 + u % 10)] := by
  rw [Lib.decDigits]
  unfold pre
  by_cases h : u < 10
  · rw [dif_pos h, if_pos h, Nat.mod_eq_of_lt h]
    rfl
  · rw [dif_neg h, if_neg h]
theorem digit_is (u : Nat) : strOfNums [(IntKind.u64.wrap (48 + (Int.tmod (u : Int) 10))) % 256] = bA [UInt8.ofNat (48 + u % 10)] := by
  have e : (IntKind.u64.wrap (48 + (Int.tmod (u : Int) 10))) % 256 = ((48 + u % 10 : Nat) : Int) := by
    rw [IntKind.wrap_u64, Int.tmod_eq_emod_of_nonneg (by omega)]
    omega
  rw [e]
  rfl
theorem div_is (u : Nat) (hu : u < 18446744073709551616) : IntKind.u64.wrap (Int.tdiv (u : Int) 10) = ((u / 10 : Nat) : Int) := by
  rw [IntKind.wrap_u64, Int.tdiv_eq_ediv_of_nonneg (by omega)]
  omega
theorem dec_loop : ∀ (n u : Nat) (s : ByteArray), u < 18446744073709551616 → Lib.nDigits u ≤ n → s.size + n ≤ 1000 → tidemarkref1_Decimal.l0 n (u : Int) s = some (bA (pre u) ++ s)
  | 0, u, s, hu, hn, hs => by
    have : 1 ≤ Lib.nDigits u := by
      rw [Lib.nDigits]
      split <;> omega
    omega
  | n + 1, u, s, hu, hn, hs => by
    simp only [tidemarkref1_Decimal.l0]
    by_cases h : u < 10
    · rw [if_neg (by omega)]
      simp only [pre, if_pos h]
      rw [show bA [] = ByteArray.empty from rfl, ByteArray.empty_append]
    · rw [Lib.nDigits_big h] at hn
      rw [if_pos (by omega), Option.bind_some, div_is u hu, digit_is]
      rw [if_pos (by rw [bA_size]; simp; omega)]
      rw [dec_loop n (u / 10) _ (by omega) (by omega) (by rw [ByteArray.size_append, bA_size]; simp; omega)]
      rw [← ByteArray.append_assoc, ← bA_append, ← dec_pre, pre, if_neg h]
theorem nDigits_le20 (u : Nat) (hu : u < 18446744073709551616) : Lib.nDigits u ≤ 20 := by
  by_cases h : u = 0
  · subst h
    rw [Lib.nDigits_small (by omega)]
    omega
  · have := Lib.numDigits_eq u (by omega) hu
    split at this <;> omega
theorem decimal_is (u : Nat) (hu : u < 18446744073709551616) : tidemarkref1_Decimal.f 20 (u : Int) = some (dB u) := by
  unfold tidemarkref1_Decimal.f
  rw [digit_is, dec_loop 20 u _ hu (nDigits_le20 u hu) (by rw [bA_size]; simp), ← bA_append, ← dec_pre]
  rfl
theorem dB_size (u : Nat) (hu : u < 18446744073709551616) : (dB u).size ≤ 20 := by
  rw [dB, bA_size, Lib.decDigits_length]
  exact nDigits_le20 u hu
end Go.Proofs.YtljkipkcabjcaaaDoor.PStampParses
