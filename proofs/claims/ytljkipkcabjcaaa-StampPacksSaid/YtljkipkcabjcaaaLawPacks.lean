/-
  The walk of the law StampPacks: it returns true, for every stamp.
-/
import Derived.Test.YtljkipkcabjcaaaPurePack
import Derived.Test.YtljkipkcabjcaaaPStampComparesx1
namespace Go.Proofs.Ytljkipkcabjcaaa.Arr
set_option linter.unusedSimpArgs false
set_option linter.unusedVariables false
open Go.RowKit Go.Proofs.YtljkipkcabjcaaaW.PrintWords Go.Proofs.YtljkipkcabjcaaaW.PrintLast Go.Proofs.YtljkipkcabjcaaaW.PrintMore
attribute [local go_sem high] PStampCompares.eqA25
theorem unpack_pack (a b c : Int) (ha : 0 ≤ a ∧ a ≤ 18446744073709551615) (hb : 0 ≤ b ∧ b ≤ 4294967295) (hc : 0 ≤ c ∧ c ≤ 4294967295) (w : World) :
    Calls Try.prog 25 #[.string (strOfNums (packL a b c))] w fun e w' => e = .returned (.tuple #[.agg #[.int .u64 a, .int .u32 b, .int .u32 c], .int .i64 0]) ∧ Below w.heap.size w w' := by
  have h := unpack_yes (strOfNums (packL a b c)) w (pack_size a b c)
  rw [stampOf_pack a b c ha hb hc] at h
  exact h
set_option maxHeartbeats 1000000 in
theorem packs_calls (a b c : Int) (w : World) (ha : 0 ≤ a ∧ a ≤ 18446744073709551615) (hb : 0 ≤ b ∧ b ≤ 4294967295) (hc : 0 ≤ c ∧ c ≤ 4294967295) :
    Calls Try.prog 8 #[.agg #[.int .u64 a, .int .u32 b, .int .u32 c]] w fun e w' => e = .returned (.bool true) ∧ Below w.heap.size w w' := by
  have C1 := Lib.hid (fun w => pack_calls a b c w ha hb hc)
  have C2 := Lib.hid (fun w => refPack_same a b c w ha hb hc)
  have C3 := Lib.hid (unpack_pack a b c ha hb hc)
  clear ha hb hc
  generalize strOfNums (packL a b c) = s at *
  have hu25 := Try.underlying25
  go_enter Try.func8, Try.ntmps8
  go_wp2_with fail
  refine (C1.out _).mono ?_
  rintro e w1 ⟨rfl, hB1⟩
  have hA1 := blk_below (blk_new w (.cells #[.int .u64 a, .int .u32 b, .int .u32 c] 25)) hB1
  have k10 := (blk_cell hA1 0).trans rfl
  have k11 := (blk_cell hA1 1).trans rfl
  have k12 := (blk_cell hA1 2).trans rfl
  go_wp2_with fail
  refine (C2.out _).mono ?_
  rintro e w2 ⟨rfl, hB2⟩
  have hA2 := blk_below hA1 hB2
  clear k10 k11 k12
  go_wp2_with fail
  refine (C3.out _).mono ?_
  rintro e w3 ⟨rfl, hB3⟩
  have hA3 := blk_below hA2 hB3
  have k30 := (blk_cell hA3 0).trans rfl
  have k31 := (blk_cell hA3 1).trans rfl
  have k32 := (blk_cell hA3 2).trans rfl
  have l3 := blk_lt hA3
  go_wp2_with fail
  go_ret
  exact ⟨rfl, below_alloc (below_step (below_step (below_step (below_alloc (Below.refl _ _) _) hB1) hB2) hB3) _⟩
end Go.Proofs.Ytljkipkcabjcaaa.Arr
