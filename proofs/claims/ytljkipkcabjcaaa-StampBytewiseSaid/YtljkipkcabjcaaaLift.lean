/-
  The walk of lift: n bytes of an array of sixteen as one number, the highest first.
-/
import Derived.Test.YtljkipkcabjcaaaPack
namespace Go.Proofs.Ytljkipkcabjcaaa.Arr
set_option linter.unusedSimpArgs false
set_option linter.unusedVariables false
open Go.RowKit Go.Proofs.YtljkipkcabjcaaaW.PrintWords Go.Proofs.YtljkipkcabjcaaaW.PrintLast Go.Proofs.YtljkipkcabjcaaaW.PrintMore
theorem wraps_u64 (n : Int) (h₀ : 0 ≤ n) (h₁ : n < 2 ^ 64) : IntKind.u64.wrap n = n := by
  simp [IntKind.wrap, IntKind.signed, IntKind.bits]
  omega
/-- One byte more. -/
theorem or_byte (u y : Int) (h0 : 0 ≤ y) (h1 : y ≤ 255) : bits .or .u64 (IntKind.u64.wrap (u * 256)) y = (u * 256 + y) % 18446744073709551616 := by
  have e : IntKind.u64.wrap (u * 256) = u * 256 % 18446744073709551616 := by simp [IntKind.wrap, IntKind.signed, IntKind.bits]
  rw [e]
  have h := bits_join .u64 64 (by decide) wraps_u64 8 (u * 256 % 18446744073709551616) y (by omega) (by show u * 256 % 18446744073709551616 % 256 = 0; omega) (by show _ < (18446744073709551616 : Int); omega) h0 (by show y < 256; omega) (by show _ < (18446744073709551616 : Int); omega)
  refine h.trans ?_
  omega
/-- Bytes as a number, the highest first; round the end where it must. -/
def num (l : List Int) : Int := l.foldl (fun v b => (v * 256 + b) % 18446744073709551616) 0
theorem num_snoc (l : List Int) (b : Int) : num (l ++ [b]) = (num l * 256 + b) % 18446744073709551616 := by simp [num]
theorem num_range (l : List Int) : 0 ≤ num l ∧ num l ≤ 18446744073709551615 := by
  rcases List.eq_nil_or_concat l with rfl | ⟨l, b, rfl⟩
  · simp [num]
  · rw [List.concat_eq_append, num_snoc]
    omega
theorem take_more (xs : List Int) (p k : Nat) (h : p + k < xs.length) : (xs.drop p).take (k + 1) = (xs.drop p).take k ++ [xs[p + k]] := by
  rw [List.take_succ_eq_append_getElem (by rw [List.length_drop]; omega), List.getElem_drop]
set_option maxHeartbeats 400000 in
theorem lift_calls (p n : Nat) (xs : List Int) (w : World) (hl : xs.length = 16) (hp : p < 16) (hpn : p + n ≤ 16) (hx : ∀ x ∈ xs, 0 ≤ x ∧ x ≤ 255) :
    Calls Try.prog 33 #[.agg (nums .u8 xs).toArray, .int .i64 p, .int .i64 n] w fun e w' => e = .returned (.int .u64 (num ((xs.drop p).take n))) ∧ Below w.heap.size w w' := by
  have g0 : ¬ 16 = p := by omega
  have g1 : (0 : Int) ≤ p := by omega
  have g2 : (p : Int) ≤ p + n := by omega
  have g3 : (p : Int) + n ≤ 16 := by omega
  have HX := Lib.hid hx
  clear hx
  go_enter Try.func33, Try.ntmps33
  go_wp2_with fail
  go_loop [7, 16] (fun v i => ∃ (k : Nat) (u : Int), k ≤ n ∧ i = .int .i64 k ∧ v = .int .u64 u ∧ u = num ((xs.drop p).take k)) (fun _ i => n - (intOf i).toNat)
  case atStart => exact ⟨0, 0, by omega, rfl, rfl, rfl⟩
  case round =>
    obtain ⟨k, u, hk, rfl, rfl, hu⟩ := hrel
    have hur := num_range ((xs.drop p).take k)
    rw [← hu] at hur
    obtain ⟨hu0, hu1⟩ := hur
    have HU := Lib.hid hu
    clear hu
    by_cases hlt : k < n
    · have hb := HX.out (xs[p + k]'(by omega)) (List.getElem_mem _)
      have hc : (w.alloc (Obj.cells (nums IntKind.u8 xs).toArray 53)).cell? ⟨w.heap.size, p + k, none⟩ = some (.int .u8 (xs[p + k]'(by omega))) := by
        rw [blk_cell (blk_new w _)]
        simp [nums, hl]
      have ht := take_more xs p k (by omega)
      obtain ⟨y, hy⟩ : ∃ y, xs[p + k]'(by omega) = y := ⟨_, rfl⟩
      rw [hy] at hb hc ht
      obtain ⟨hb0, hb1⟩ := hb
      have HT := Lib.hid ht
      clear hy ht
      go_wp2_with fail
      refine ⟨⟨k + 1, _, by omega, by go_num, rfl, ?_⟩, by simp [intOf]; omega⟩
      rw [HT.out, num_snoc, ← HU.out, or_byte u y hb0 hb1]
    · obtain rfl : k = n := by omega
      go_wp2_with fail
      go_ret
      exact ⟨by rw [HU.out]; rfl, (Below.refl _ _).alloc (Nat.le_refl _) _⟩
end Go.Proofs.Ytljkipkcabjcaaa.Arr
