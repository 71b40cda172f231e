/-
  The document's Unpack over plain numbers: it tells what Unpack tells; and what is taken packs to the same bytes.
-/
import Derived.Test.YtljkipkcabjcaaaPurePack
import Derived.Test.YtljkipkcabjcaaaPStampUnpacksx1
namespace Go.Proofs.Ytljkipkcabjcaaa.Arr
set_option linter.unusedSimpArgs false
set_option linter.unusedVariables false
open Go.RowKit Go.Proofs.YtljkipkcabjcaaaW.PrintWords Go.Proofs.YtljkipkcabjcaaaW.PrintLast Go.Proofs.YtljkipkcabjcaaaW.PrintMore
open PStampUnpacks
theorem wrap_u64 (n : Int) : IntKind.u64.wrap n = n % 18446744073709551616 := by simp [IntKind.wrap, IntKind.signed, IntKind.bits]
theorem small_step (v b : Int) : IntKind.u64.wrap (IntKind.u64.wrap (v * 256) + IntKind.u64.wrap b) = (v * 256 + b) % 18446744073709551616 := by
  simp only [wrap_u64]
  omega
theorem bytesOf_get (s : ByteArray) (i : Nat) (h : i < s.size) : (bytesOf s)[i]'(by rw [bytesOf_length]; exact h) = bt s i := by
  have := rd_bytesOf s i
  unfold rd at this
  rw [← this]
  simp [bytesOf_length, h]
theorem small_loop (s : ByteArray) (hs : s.size ≤ 1000) (d : Nat) : ∀ (k i : Nat) (v : Int), i + d = s.size → d < k → v = num ((bytesOf s).take i) → tidemarkref1_small.l0 k s v i = some (num (bytesOf s)) := by
  induction d with
  | zero =>
    intro k i v hi hk hv
    obtain ⟨k, rfl⟩ : ∃ j, k = j + 1 := ⟨k - 1, by omega⟩
    simp only [tidemarkref1_small.l0]
    rw [if_neg (by omega), hv, List.take_of_length_le (by rw [bytesOf_length]; omega)]
  | succ d ih =>
    intro k i v hi hk hv
    obtain ⟨k, rfl⟩ : ∃ j, k = j + 1 := ⟨k - 1, by omega⟩
    simp only [tidemarkref1_small.l0]
    have e : wrap64 ((i : Int) + 1) = ((i + 1 : Nat) : Int) := by unfold wrap64; omega
    rw [if_pos (by omega), if_pos (by omega), e, small_step]
    refine ih k (i + 1) _ (by omega) (by omega) ?_
    rw [List.take_succ_eq_append_getElem (by rw [bytesOf_length]; omega), num_snoc, bytesOf_get s i (by omega), hv]
theorem small_num (s : ByteArray) (hs : s.size ≤ 1000) : tidemarkref1_small.f 17 s = some (num (bytesOf s)) ∨ 16 < s.size := by
  by_cases h : 16 < s.size
  · exact .inr h
  · refine .inl ?_
    unfold tidemarkref1_small.f
    exact small_loop s hs s.size 17 0 0 (by omega) (by omega) rfl
theorem bytes_extract (s : ByteArray) (a b : Nat) : bytesOf (s.extract a b) = ((bytesOf s).drop a).take (b - a) := by
  unfold bytesOf
  rw [← List.map_drop, ← List.map_take]
  congr 1
  simp
theorem pow_le (n : Nat) (h : n ≤ 8) : (256 : Int) ^ n ≤ 18446744073709551616 := by
  have : n = 0 ∨ n = 1 ∨ n = 2 ∨ n = 3 ∨ n = 4 ∨ n = 5 ∨ n = 6 ∨ n = 7 ∨ n = 8 := by omega
  rcases this with rfl | rfl | rfl | rfl | rfl | rfl | rfl | rfl | rfl <;> decide
theorem num_lt (n : Nat) : ∀ l : List Int, l.length = n → n ≤ 8 → (∀ x ∈ l, 0 ≤ x ∧ x ≤ 255) → num l < 256 ^ n ∧ be n (num l) = l := by
  induction n with
  | zero =>
    intro l hl _ _
    obtain rfl := List.length_eq_zero_iff.1 hl
    exact ⟨by decide, rfl⟩
  | succ n ih =>
    intro l hl hn hr
    rcases List.eq_nil_or_concat l with rfl | ⟨l, b, rfl⟩
    · simp at hl
    · rw [List.concat_eq_append] at hl hr ⊢
      have hl' : l.length = n := by simpa using hl
      obtain ⟨h1, h2⟩ := ih l hl' (by omega) (fun x hx => hr x (List.mem_append_left _ hx))
      have hb := hr b (List.mem_append_right _ (by simp))
      have h0 := num_range l
      have hp := pow_le (n + 1) hn
      have hs : (256 : Int) ^ (n + 1) = 256 ^ n * 256 := Int.pow_succ _ _
      rw [num_snoc, Int.emod_eq_of_lt (by omega) (by omega)]
      refine ⟨by omega, ?_⟩
      rw [be, show (num l * 256 + b) / 256 = num l from by omega, show (num l * 256 + b) % 256 = b from by omega, h2]
theorem bytesOf_range (s : ByteArray) : ∀ x ∈ bytesOf s, 0 ≤ x ∧ x ≤ 255 := by
  intro x hx
  obtain ⟨b, _, rfl⟩ := List.mem_map.1 hx
  have := b.toNat_lt
  omega
theorem str_bytes (s : ByteArray) : strOfNums (bytesOf s) = s := by
  apply ByteArray.ext
  simp only [strOfNums, bytesOf, List.map_map]
  have : (fun n : Int => UInt8.ofNat n.toNat) ∘ (fun b : UInt8 => (b.toNat : Int)) = id := by
    funext b
    simp
  rw [this, List.map_id]
theorem take_range {l : List Int} (h : ∀ x ∈ l, 0 ≤ x ∧ x ≤ 255) (a b : Nat) : ∀ x ∈ (l.drop a).take b, 0 ≤ x ∧ x ≤ 255 := fun x hx => h x (List.mem_of_mem_drop (List.mem_of_mem_take hx))
/-- What sixteen bytes tell fits a stamp's fields. -/
theorem stampOf_fits (s : ByteArray) : (0 ≤ (stampOf s).1 ∧ (stampOf s).1 ≤ 18446744073709551615) ∧ (0 ≤ (stampOf s).2.1 ∧ (stampOf s).2.1 ≤ 4294967295) ∧ (0 ≤ (stampOf s).2.2 ∧ (stampOf s).2.2 ≤ 4294967295) := by
  refine ⟨num_range _, ?_, ?_⟩
  · show 0 ≤ _ % 4294967296 ∧ _ % 4294967296 ≤ _; omega
  · show 0 ≤ _ % 4294967296 ∧ _ % 4294967296 ≤ _; omega
theorem pack_stampOf (s : ByteArray) (hs : s.size = 16) : strOfNums (packL (stampOf s).1 (stampOf s).2.1 (stampOf s).2.2) = s := by
  have hl : (bytesOf s).length = 16 := by rw [bytesOf_length, hs]
  have r := bytesOf_range s
  obtain ⟨_, b1⟩ := num_lt 8 (((bytesOf s).drop 0).take 8) (by simp [hl]) (by omega) (take_range r 0 8)
  obtain ⟨l2, b2⟩ := num_lt 4 (((bytesOf s).drop 8).take 4) (by simp [hl]) (by omega) (take_range r 8 4)
  obtain ⟨l3, b3⟩ := num_lt 4 (((bytesOf s).drop 12).take 4) (by simp [hl]) (by omega) (take_range r 12 4)
  have h4 : (256 : Int) ^ 4 = 4294967296 := rfl
  rw [h4] at l2 l3
  have n2 := num_range (((bytesOf s).drop 8).take 4)
  have n3 := num_range (((bytesOf s).drop 12).take 4)
  conv => rhs; rw [← str_bytes s]
  rw [packL_be]
  simp only [stampOf]
  rw [Int.emod_eq_of_lt n2.1 l2, Int.emod_eq_of_lt n3.1 l3, b1, b2, b3]
  congr 1
  have e : bytesOf s = (bytesOf s).take 8 ++ (((bytesOf s).drop 8).take 4 ++ ((bytesOf s).drop 8).drop 4) := by rw [List.take_append_drop, List.take_append_drop]
  have e3 : ((bytesOf s).drop 12).take 4 = (bytesOf s).drop 12 := List.take_of_length_le (by simp [hl])
  rw [e3, List.drop_zero]
  rw [List.drop_drop] at e
  rw [List.append_assoc]
  exact e.symm
theorem refUnpack_yes (s : ByteArray) (hs : s.size = 16) : tidemarkref1_Unpack.f 17 s = some ((stampOf s).1, (stampOf s).2.1, (stampOf s).2.2, 0) := by
  have h1 : tidemarkref1_small.f 17 (s.extract 0 8) = some (num (bytesOf (s.extract 0 8))) := (small_num _ (by simp; omega)).resolve_right (by simp; omega)
  have h2 : tidemarkref1_small.f 17 (s.extract 8 12) = some (num (bytesOf (s.extract 8 12))) := (small_num _ (by simp; omega)).resolve_right (by simp; omega)
  have h3 : tidemarkref1_small.f 17 (s.extract 12 16) = some (num (bytesOf (s.extract 12 16))) := (small_num _ (by simp; omega)).resolve_right (by simp; omega)
  unfold tidemarkref1_Unpack.f
  rw [h1, h2, h3]
  simp only [bytes_extract, Option.bind_some]
  rw [if_pos (by omega), if_pos (by omega), if_pos (by omega), if_pos (by omega), if_pos (by omega), if_pos (by omega), if_pos (by omega)]
  rfl
theorem refUnpack_no (s : ByteArray) (hs : s.size ≠ 16) : tidemarkref1_Unpack.f 17 s = some (0, 0, 0, 10) := by
  unfold tidemarkref1_Unpack.f
  rw [if_neg (by omega)]
end Go.Proofs.Ytljkipkcabjcaaa.Arr
