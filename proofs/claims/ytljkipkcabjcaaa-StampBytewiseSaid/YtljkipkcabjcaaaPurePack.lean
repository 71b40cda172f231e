/-
  Sixteen bytes of a stamp over plain numbers and lists: what Pack lays, what the document's Pack writes, what Unpack reads.
-/
import Derived.Test.YtljkipkcabjcaaaUnpack
import Derived.Test.YtljkipkcabjcaaaRefPack
namespace Go.Proofs.Ytljkipkcabjcaaa.Arr
set_option linter.unusedSimpArgs false
set_option linter.unusedVariables false
open Go.RowKit Go.Proofs.YtljkipkcabjcaaaW.PrintWords Go.Proofs.YtljkipkcabjcaaaW.PrintLast Go.Proofs.YtljkipkcabjcaaaW.PrintMore
open PStampPacks
/-- m bytes of a number, the highest first. -/
def be : Nat → Int → List Int
  | 0, _ => []
  | m + 1, u => be m (u / 256) ++ [u % 256]
theorem be_length (m : Nat) : ∀ u, (be m u).length = m := by
  induction m with
  | zero => intro u; rfl
  | succ m ih => intro u; simp [be, ih]
theorem be_range (m : Nat) : ∀ u, ∀ x ∈ be m u, 0 ≤ x ∧ x ≤ 255 := by
  induction m with
  | zero => intro u x hx; simp [be] at hx
  | succ m ih =>
    intro u x hx
    simp only [be, List.mem_append, List.mem_singleton] at hx
    rcases hx with hx | rfl
    · exact ih _ x hx
    · omega
theorem layL_be (p m : Nat) : ∀ (u : Int) (xs : List Int), p + m ≤ xs.length → layL p m u xs = xs.take p ++ be m u ++ xs.drop (p + m) := by
  induction m with
  | zero => intro u xs h; simp [layL, be]
  | succ m ih =>
    intro u xs h
    rw [layL, ih _ _ (by rw [List.length_set]; omega), List.take_set_of_le (by omega)]
    rw [show (xs.set (p + m) (u % 256)).drop (p + m) = (u % 256) :: xs.drop (p + m + 1) from by
      rw [List.drop_set, if_neg (by omega), Nat.sub_self, List.drop_eq_getElem_cons (by omega)]
      rfl]
    simp [be, Nat.add_assoc]
theorem packL_be (a b c : Int) : packL a b c = be 8 a ++ be 4 b ++ be 4 c := by
  unfold packL
  rw [layL_be 0 8 a zeros16 (by simp [zeros16])]
  rw [show zeros16.take 0 = [] from rfl, List.nil_append]
  rw [layL_be 8 4 b _ (by simp [be_length, zeros16])]
  rw [layL_be 12 4 c _ (by simp [be_length, zeros16])]
  have h8 := be_length 8 a
  have h4 := be_length 4 b
  have e1 : (be 8 a).take 12 = be 8 a := List.take_of_length_le (by omega)
  have e2 : (be 8 a).drop 16 = [] := List.drop_of_length_le (by omega)
  have e3 : (be 4 b).drop 8 = [] := List.drop_of_length_le (by omega)
  simp [be_length, zeros16, List.take_append, List.drop_append, e1, e2, e3]
theorem strOfNums_append (xs ys : List Int) : strOfNums (xs ++ ys) = strOfNums xs ++ strOfNums ys := by
  apply ByteArray.ext
  simp [strOfNums]
theorem strOfNums_size (xs : List Int) : (strOfNums xs).size = xs.length := by
  show (strOfNums xs).data.size = _
  simp [strOfNums]
theorem bytes_of_nums (xs : List Int) (h : ∀ x ∈ xs, 0 ≤ x ∧ x ≤ 255) : bytesOf (strOfNums xs) = xs := by
  unfold bytesOf strOfNums
  simp only [List.map_map]
  conv => rhs; rw [← List.map_id xs]
  refine List.map_congr_left fun x hx => ?_
  have := h x hx
  simp
  omega
theorem big_loop (m : Nat) : ∀ (k : Nat) (u : Int) (n i : Int) (s : ByteArray), 0 ≤ u → u ≤ 18446744073709551615 → 0 ≤ i → n ≤ 100 → n - i = m → s.size + m ≤ 100 → m < k → tidemarkref1_big.l0 k u n s i = some (strOfNums (be m u) ++ s) := by
  induction m with
  | zero =>
    intro k u n i s hu hu2 hi hn hm hs hk
    obtain ⟨k, rfl⟩ : ∃ j, k = j + 1 := ⟨k - 1, by omega⟩
    simp only [tidemarkref1_big.l0]
    rw [if_neg (by omega)]
    have : strOfNums (be 0 u) = ByteArray.empty := rfl
    rw [this]
    simp
  | succ m ih =>
    intro k u n i s hu hu2 hi hn hm hs hk
    obtain ⟨k, rfl⟩ : ∃ j, k = j + 1 := ⟨k - 1, by omega⟩
    simp only [tidemarkref1_big.l0]
    rw [if_pos (by omega)]
    have e1 : Int.tmod u 256 % 256 = u % 256 := by rw [Int.tmod_eq_emod_of_nonneg hu]; omega
    have e2 : IntKind.u64.wrap (Int.tdiv u 256) = u / 256 := by
      rw [Int.tdiv_eq_ediv_of_nonneg hu]
      exact wraps_u64 _ (by omega) (by show _ < (18446744073709551616 : Int); omega)
    have e3 : wrap64 (i + 1) = i + 1 := by unfold wrap64; omega
    simp only [Option.bind_some]
    rw [e1, e2, e3, if_pos (by rw [strOfNums_size]; simp; omega)]
    rw [ih k _ _ _ _ (by omega) (by omega) (by omega) hn (by omega) (by rw [ByteArray.size_append, strOfNums_size]; simp; omega) (by omega)]
    rw [be, strOfNums_append, ByteArray.append_assoc]
theorem big_be (n : Nat) (hn : n ≤ 100) (u : Int) (hu : 0 ≤ u) (hu2 : u ≤ 18446744073709551615) : tidemarkref1_big.f (n + 1) u n = some (strOfNums (be n u)) := by
  unfold tidemarkref1_big.f
  rw [big_loop n (n + 1) u n 0 _ hu hu2 (by omega) (by omega) (by omega) (by show 0 + n ≤ 100; omega) (by omega)]
  show some (strOfNums (be n u) ++ ByteArray.empty) = _
  simp
theorem big_at {n k : Nat} (hn : n ≤ 100) (hk : n + 1 ≤ k) {u : Int} (hu : 0 ≤ u) (hu2 : u ≤ 18446744073709551615) : tidemarkref1_big.f k u n = some (strOfNums (be n u)) :=
  at_rounds (tidemarkref1_big.mono u n) hk (big_be n hn u hu hu2)
/-- A number's bytes tell the number. -/
theorem num_be (m : Nat) : ∀ u : Int, 0 ≤ u → u < 256 ^ m → u ≤ 18446744073709551615 → num (be m u) = u := by
  induction m with
  | zero =>
    intro u h0 h1 _
    have : u = 0 := by simp at h1; omega
    subst this
    rfl
  | succ m ih =>
    intro u h0 h1 hm
    have h2 : (256 : Int) ^ (m + 1) = 256 ^ m * 256 := by rw [Int.pow_succ]
    rw [be, num_snoc, ih (u / 256) (by omega) (by omega) (by omega)]
    omega
theorem stampOf_pack (a b c : Int) (ha : 0 ≤ a ∧ a ≤ 18446744073709551615) (hb : 0 ≤ b ∧ b ≤ 4294967295) (hc : 0 ≤ c ∧ c ≤ 4294967295) : stampOf (strOfNums (packL a b c)) = (a, b, c) := by
  have hr : ∀ x ∈ packL a b c, 0 ≤ x ∧ x ≤ 255 := by
    rw [packL_be]
    intro x hx
    simp only [List.mem_append] at hx
    rcases hx with (hx | hx) | hx
    · exact be_range _ _ x hx
    · exact be_range _ _ x hx
    · exact be_range _ _ x hx
  unfold stampOf
  rw [bytes_of_nums _ hr, packL_be]
  have h8 := be_length 8 a
  have h4 := be_length 4 b
  have h4c := be_length 4 c
  have e1 : (List.take 8 (List.drop 0 (be 8 a ++ be 4 b ++ be 4 c))) = be 8 a := by
    rw [List.drop_zero, List.append_assoc, List.take_append_of_le_length (by omega), List.take_of_length_le (by omega)]
  have e2 : (List.take 4 (List.drop 8 (be 8 a ++ be 4 b ++ be 4 c))) = be 4 b := by
    rw [List.append_assoc, List.drop_append_of_le_length (by omega), List.drop_of_length_le (by omega), List.nil_append, List.take_append_of_le_length (by omega), List.take_of_length_le (by omega)]
  have e3 : (List.take 4 (List.drop 12 (be 8 a ++ be 4 b ++ be 4 c))) = be 4 c := by
    rw [List.drop_append, List.drop_of_length_le (by simp; omega), List.nil_append, List.length_append, h8, h4]
    exact List.take_of_length_le (by rw [List.drop_zero]; omega)
  rw [e1, e2, e3, num_be 8 a ha.1 (by have h : (256 : Int) ^ 8 = 18446744073709551616 := rfl; rw [h]; omega) (by omega), num_be 4 b hb.1 (by have h : (256 : Int) ^ 4 = 4294967296 := rfl; rw [h]; omega) (by omega), num_be 4 c hc.1 (by have h : (256 : Int) ^ 4 = 4294967296 := rfl; rw [h]; omega) (by omega)]
  rw [Int.emod_eq_of_lt hb.1 (by omega), Int.emod_eq_of_lt hc.1 (by omega)]
theorem pack_size (a b c : Int) : (strOfNums (packL a b c)).size = 16 := by rw [strOfNums_size, packL_be]; simp [be_length]
/-- The document's Pack writes what Pack lays. -/
theorem refPack_same (a b c : Int) (w : World) (ha : 0 ≤ a ∧ a ≤ 18446744073709551615) (hb : 0 ≤ b ∧ b ≤ 4294967295) (hc : 0 ≤ c ∧ c ≤ 4294967295) :
    Calls Try.prog 24 #[.agg #[.int .u64 a, .int .u32 b, .int .u32 c]] w fun e w' => e = .returned (.string (strOfNums (packL a b c))) ∧ Below w.heap.size w w' := by
  have h := refPack_calls 9 a b c _ _ _ w ha hb hc (big_at (n := 8) (by omega) (by omega) ha.1 ha.2) (big_at (n := 4) (by omega) (by omega) hb.1 (by omega)) (big_at (n := 4) (by omega) (by omega) hc.1 (by omega)) (by simp [strOfNums_size, be_length])
  rw [packL_be, strOfNums_append, strOfNums_append]
  exact h
end Go.Proofs.Ytljkipkcabjcaaa.Arr
