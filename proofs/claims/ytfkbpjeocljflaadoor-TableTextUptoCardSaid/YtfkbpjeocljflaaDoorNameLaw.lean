/-
  What a name is: 1 to so many bytes, each a small letter.
-/
import Derived.Test.YtfkbpjeocljflaaDoorMust
import Derived.Test.YtfkbpjeocljflaaDoorSchema
/-
  named.
-/
namespace Go.Proofs.YtfkbpjeocljflaaDoor
open Go Go.RowKit Go.Lib
set_option linter.unusedVariables false
set_option linter.unusedSimpArgs false

/-- A rune that is no small letter. -/
def oddR (x : Nat) : Bool := decide (x < 97) || decide (122 < x)

theorem odd_calls (x : Nat) (hx : x ≤ 1114111) (w : World) : Calls Tryd.prog 41 #[encR x] w fun e w' => e = .returned (.bool (oddR x)) ∧ w' = w := by
  unfold encR
  by_cases h1 : x < 97
  · have h1' : ((x : Int) < 97) = True := by simp; omega
    have hr : oddR x = true := by unfold oddR; simp [h1]
    rw [hr]
    go_enter Tryd.func41, Tryd.ntmps41
    go_wp2
    go_ret
    exact ⟨rfl, rfl⟩
  · have h1' : ¬ ((x : Int) < 97) := by omega
    by_cases h2 : 122 < x
    · have h2' : ((122 : Int) < x) := by omega
      have hr : oddR x = true := by unfold oddR; simp [h2]
      rw [hr]
      go_enter Tryd.func41, Tryd.ntmps41
      go_wp2
      go_ret
      exact ⟨rfl, rfl⟩
    · have h2' : ¬ ((122 : Int) < x) := by omega
      have hr : oddR x = false := by unfold oddR; simp [h1, h2]
      rw [hr]
      go_enter Tryd.func41, Tryd.ntmps41
      go_wp2
      go_ret
      exact ⟨rfl, rfl⟩
/-- A name of at most so many letters. -/
def isName (s : ByteArray) (most : Int) : Bool := decide (0 < s.size) && decide ((s.size : Int) ≤ most) && !decide (0 ≤ Lib.idxFunc oddR true s)

theorem named_calls (s : ByteArray) (most : Int) (w : World) : Calls Tryd.prog 20 #[.string s, .int .i64 most] w fun e w' => e = .returned (.bool (isName s most)) ∧ Below w.heap.size w w' := by
  have hp : PredGrows Tryd.prog 41 #[] oddR w := fun W x hx hb => (odd_calls x hx W).mono fun e w' h => ⟨h.1, by rw [h.2]; exact Below.refl _ _⟩
  by_cases h1 : 0 < s.size
  · have h1' : (0 : Int) < s.size := by omega
    by_cases h2 : (s.size : Int) ≤ most
    · have hr : isName s most = !decide (0 ≤ Lib.idxFunc oddR true s) := by unfold isName; simp [h1, h2]
      rw [hr]
      have hc := Tryd.strings_ContainsFunc_grows 41 #[] (enters_of Tryd.func41 (by kernel_rfl) rfl) oddR s w hp
      go_enter Tryd.func20, Tryd.ntmps20
      go_wp2_with (refine hc.mono ?_; rintro e w1 ⟨rfl, hb1⟩)
      go_ret
      exact ⟨rfl, hb1⟩
    · have hr : isName s most = false := by unfold isName; simp [h2]
      rw [hr]
      go_enter Tryd.func20, Tryd.ntmps20
      go_wp2
      go_ret
      exact ⟨rfl, Below.refl _ _⟩
  · have h1' : ¬ (0 : Int) < s.size := by omega
    have hr : isName s most = false := by unfold isName; simp [h1]
    rw [hr]
    go_enter Tryd.func20, Tryd.ntmps20
    go_wp2
    go_ret
    exact ⟨rfl, Below.refl _ _⟩
end Go.Proofs.YtfkbpjeocljflaaDoor

namespace Go.Proofs.YtfkbpjeocljflaaDoor
open Go Go.RowKit Go.Lib
set_option linter.unusedVariables false
set_option linter.unusedSimpArgs false

theorem decode_small (s : ByteArray) (i : Nat) (h : (s.get! i).toNat < 128) : Utf8.decode s i = ((s.get! i).toNat, 1) := by
  unfold Utf8.decode
  simp only [Nat.add_zero]
  rw [if_pos h]

theorem decode_great (s : ByteArray) (i : Nat) (h : ¬ (s.get! i).toNat < 128) : 128 ≤ (Utf8.decode s i).1 := by
  unfold Utf8.decode
  simp only [Nat.add_zero]
  rw [if_neg h]
  have hr : Utf8.runeError = 65533 := rfl
  repeat' split
  all_goals first
    | (simp only [hr]; omega)
    | (simp only []; simp only [ge_iff_le, Bool.and_eq_true, decide_eq_true_eq] at *; omega)


theorem odd_at (s : ByteArray) (i : Nat) : oddR (Utf8.decode s i).1 = !letter (s.get! i) := by
  by_cases h : (s.get! i).toNat < 128
  · rw [decode_small s i h]
    unfold oddR letter
    by_cases h1 : (s.get! i).toNat < 97 <;> by_cases h2 : 122 < (s.get! i).toNat <;> simp [h1, h2] <;> omega
  · have h2 := decode_great s i h
    have e1 : oddR (Utf8.decode s i).1 = true := by unfold oddR; simp; omega
    have e2 : letter (s.get! i) = false := by unfold letter; simp; omega
    rw [e1, e2]; rfl

theorem idx_odd_from (s : ByteArray) : ∀ (f pos : Nat), s.size ≤ pos + f → (Lib.idxFuncFrom oddR true s f pos = -1 ↔ ∀ j, pos ≤ j → j < s.size → letter (s.get! j) = true)
  | 0, pos, h => by simp only [Lib.idxFuncFrom, true_iff]; intro j h1 h2; omega
  | f + 1, pos, h => by
    unfold Lib.idxFuncFrom
    by_cases hp : pos < s.size
    · rw [if_pos hp, odd_at]
      cases hl : letter (s.get! pos) with
      | false =>
        rw [if_pos (by rfl)]
        constructor
        · intro h1; omega
        · intro h1; have := h1 pos (Nat.le_refl _) hp; rw [hl] at this; cases this
      | true =>
        rw [if_neg (by simp)]
        have hs : (s.get! pos).toNat < 128 := by unfold letter at hl; simp at hl; omega
        rw [decode_small s pos hs, idx_odd_from s f (pos + 1) (by omega)]
        constructor
        · intro h1 j h2 h3
          by_cases e : j = pos
          · rw [e]; exact hl
          · exact h1 j (by omega) h3
        · intro h1 j h2 h3; exact h1 j (by omega) h3
    · rw [if_neg hp]
      simp only [true_iff]; intro j h1 h2; omega

theorem idx_odd (s : ByteArray) : (¬ 0 ≤ Lib.idxFunc oddR true s) ↔ ∀ j, j < s.size → letter (s.get! j) = true := by
  have h := idx_odd_from s s.size 0 (by omega)
  have hr := Lib.idxFunc_range oddR true s
  have e : (¬ 0 ≤ Lib.idxFunc oddR true s) ↔ Lib.idxFuncFrom oddR true s s.size 0 = -1 := by
    show (¬ 0 ≤ Lib.idxFunc oddR true s) ↔ Lib.idxFunc oddR true s = -1
    omega
  rw [e, h]
  constructor
  · intro h1 j h2; exact h1 j (Nat.zero_le _) h2
  · intro h1 j _ h2; exact h1 j h2

theorem isName_iff (s : ByteArray) (most : Int) : isName s most = true ↔ 0 < s.size ∧ (s.size : Int) ≤ most ∧ ∀ j, j < s.size → letter (s.get! j) = true := by
  unfold isName
  rw [Bool.and_eq_true, Bool.and_eq_true, ← idx_odd]
  simp [and_assoc]

theorem get!_data (s : ByteArray) (j : Nat) (h : j < s.size) : s.get! j = s.data.toList[j]'(by rw [← size_eq]; exact h) := by
  have h' : j < s.data.size := h
  show s.data[j]! = _
  rw [getElem!_pos s.data j h']
  simp

theorem isName_nm (s : ByteArray) (most : Nat) : isName s most = nm s most := by
  rw [Bool.eq_iff_iff, isName_iff]
  unfold nm
  simp only [Bool.and_eq_true, decide_eq_true_eq, List.all_eq_true]
  constructor
  · rintro ⟨h0, h1, h2⟩
    refine ⟨⟨h0, by omega⟩, fun b hb => ?_⟩
    obtain ⟨j, hj, rfl⟩ := List.mem_iff_getElem.1 hb
    have hj' : j < s.size := by rw [size_eq]; exact hj
    rw [← get!_data s j hj']
    exact h2 j hj'
  · rintro ⟨⟨h0, h1⟩, h2⟩
    refine ⟨h0, by omega, fun j hj => ?_⟩
    rw [get!_data s j hj]
    exact h2 _ (List.getElem_mem _)
end Go.Proofs.YtfkbpjeocljflaaDoor
