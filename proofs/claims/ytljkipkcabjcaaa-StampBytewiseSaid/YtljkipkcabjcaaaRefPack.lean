/-
  The walk of the document's Pack.
-/
import Derived.Test.YtljkipkcabjcaaaPStampPacksx2
import Derived.Test.YtljkipkcabjcaaaPack
import Derived.Deep.RegionHeld3
namespace Go.Proofs.Ytljkipkcabjcaaa.Arr
open Go.RowKit Go.Proofs.YtljkipkcabjcaaaW.PrintWords Go.Proofs.YtljkipkcabjcaaaW.PrintLast Go.Proofs.YtljkipkcabjcaaaW.PrintMore
open PStampPacks
theorem wrap_in {n : Int} (h0 : 0 ≤ n) (h1 : n ≤ 4294967295) : IntKind.u64.wrap n = n := by
  simp [IntKind.wrap, IntKind.signed, IntKind.bits]
  omega
set_option maxHeartbeats 400000 in
theorem refPack_calls (k : Nat) (a b c : Int) (x y z : ByteArray) (w : World) (ha : 0 ≤ a ∧ a ≤ 18446744073709551615) (hb : 0 ≤ b ∧ b ≤ 4294967295) (hc : 0 ≤ c ∧ c ≤ 4294967295)
    (hx : tidemarkref1_big.f k a 8 = some x) (hy : tidemarkref1_big.f k b 4 = some y) (hz : tidemarkref1_big.f k c 4 = some z) (hl : x.size + y.size + z.size ≤ 1000) :
    Calls Try.prog 24 #[.agg #[.int .u64 a, .int .u32 b, .int .u32 c]] w fun e w' => e = .returned (.string ((x ++ y) ++ z)) ∧ Below w.heap.size w w' := by
  obtain ⟨a0, a1⟩ := ha
  obtain ⟨b0, b1⟩ := hb
  obtain ⟨c0, c1⟩ := hc
  have HX := Lib.hid hx
  have HY := Lib.hid hy
  have HZ := Lib.hid hz
  have HY2 := Lib.hid (show tidemarkref1_big.f k (IntKind.u64.wrap b) 4 = some y by rw [wrap_in b0 b1]; exact hy)
  have HZ2 := Lib.hid (show tidemarkref1_big.f k (IntKind.u64.wrap c) 4 = some z by rw [wrap_in c0 c1]; exact hz)
  have l1 : (9223372036854775807 < x.size + y.size) = False := by simp; omega
  have l2 : (9223372036854775807 < x.size + y.size + z.size) = False := by simp; omega
  clear hx hy hz hl
  go_enter Try.func24, Try.ntmps24
  go_wp2_with fail
  go_region_held3 (fun w' => w'.cell? ⟨w.heap.size, 0, none⟩ = some (.int .u64 a) ∧ w'.cell? ⟨w.heap.size, 1, none⟩ = some (.int .u32 b) ∧ w'.cell? ⟨w.heap.size, 2, none⟩ = some (.int .u32 c))
    (first | go_keep | (go_split_ands; refine ⟨?_, ?_, ?_⟩ <;> (first | go_keep | (refine pw_cell_below (by assumption) ?_; go_keep))))
    (first | ((with_reducible refine (tidemarkref1_big.calls k a 8 x _ HX.out).mono ?_); rintro e w1 ⟨rfl, hB1⟩) | ((with_reducible refine (tidemarkref1_big.calls k b 4 y _ HY.out).mono ?_); rintro e w2 ⟨rfl, hB2⟩) | ((with_reducible refine (tidemarkref1_big.calls k c 4 z _ HZ.out).mono ?_); rintro e w3 ⟨rfl, hB3⟩) | ((with_reducible refine (tidemarkref1_big.calls k (IntKind.u64.wrap b) 4 y _ HY2.out).mono ?_); rintro e w2 ⟨rfl, hB2⟩) | ((with_reducible refine (tidemarkref1_big.calls k (IntKind.u64.wrap c) 4 z _ HZ2.out).mono ?_); rintro e w3 ⟨rfl, hB3⟩))
  all_goals go_wp2_with fail
  all_goals
    go_ret
    exact ⟨rfl, below_step (below_step (below_step (below_drew1 (below_alloc (Below.refl _ _) _)) hB1) hB2) hB3⟩
end Go.Proofs.Ytljkipkcabjcaaa.Arr
