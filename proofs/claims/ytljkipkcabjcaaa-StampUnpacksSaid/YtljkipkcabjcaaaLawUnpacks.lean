/-
  The walk of the law StampUnpacks: it returns true, for every text.
-/
import Derived.Test.YtljkipkcabjcaaaPureUnpacks
import Derived.Test.YtljkipkcabjcaaaPStampComparesx1
namespace Go.Proofs.Ytljkipkcabjcaaa.Arr
set_option linter.unusedSimpArgs false
set_option linter.unusedVariables false
open Go.RowKit Go.Proofs.YtljkipkcabjcaaaW.PrintWords Go.Proofs.YtljkipkcabjcaaaW.PrintLast Go.Proofs.YtljkipkcabjcaaaW.PrintMore
open PStampUnpacks
attribute [local go_sem high] PStampCompares.eqA25
set_option maxHeartbeats 1000000 in
theorem unpacks_no (s : ByteArray) (w : World) (hs : s.size ≠ 16) (hm : s.size ≤ 140737488351232) :
    Calls Try.prog 9 #[.string s] w fun e w' => e = .returned (.bool true) ∧ Below w.heap.size w w' := by
  have C1 := Lib.hid (fun w => unpack_no s w hs hm)
  have C2 := Lib.hid (fun w => tidemarkref1_Unpack.calls 17 s 0 0 0 10 w (refUnpack_no s hs))
  clear hs
  have hu25 := Try.underlying25
  go_enter Try.func9, Try.ntmps9
  go_wp2_with fail
  refine (C1.out _).mono ?_
  rintro e w1 ⟨rfl, hB1⟩
  go_wp2_with fail
  refine (C2.out _).mono ?_
  rintro e w2 ⟨rfl, hB2⟩
  have hA2 := blk_below (blk_new w1 (.cells #[.int .u64 0, .int .u32 0, .int .u32 0] 25)) hB2
  have k30 := (blk_cell hA2 0).trans rfl
  have k31 := (blk_cell hA2 1).trans rfl
  have k32 := (blk_cell hA2 2).trans rfl
  have l3 := blk_lt hA2
  go_wp2_with fail
  go_ret
  exact ⟨rfl, below_alloc (below_step (below_alloc (below_step (Below.refl _ _) hB1) _) hB2) _⟩
set_option maxHeartbeats 1000000 in
theorem unpacks_yes (s : ByteArray) (w : World) (hs : s.size = 16) :
    Calls Try.prog 9 #[.string s] w fun e w' => e = .returned (.bool true) ∧ Below w.heap.size w w' := by
  have C1 := Lib.hid (fun w => unpack_yes s w hs)
  have C2 := Lib.hid (fun w => tidemarkref1_Unpack.calls 17 s _ _ _ 0 w (refUnpack_yes s hs))
  have hf := stampOf_fits s
  have C3 := Lib.hid (fun w => pack_calls (stampOf s).1 (stampOf s).2.1 (stampOf s).2.2 w hf.1 hf.2.1 hf.2.2)
  rw [pack_stampOf s hs] at C3
  clear hs hf
  generalize (stampOf s).1 = a at *
  generalize (stampOf s).2.1 = b at *
  generalize (stampOf s).2.2 = c at *
  have hu25 := Try.underlying25
  go_enter Try.func9, Try.ntmps9
  go_wp2_with fail
  refine (C1.out _).mono ?_
  rintro e w1 ⟨rfl, hB1⟩
  go_wp2_with fail
  refine (C2.out _).mono ?_
  rintro e w2 ⟨rfl, hB2⟩
  have hA2 := blk_below (blk_new w1 (.cells #[.int .u64 a, .int .u32 b, .int .u32 c] 25)) hB2
  have k30 := (blk_cell hA2 0).trans rfl
  have k31 := (blk_cell hA2 1).trans rfl
  have k32 := (blk_cell hA2 2).trans rfl
  have l3 := blk_lt hA2
  go_wp2_with fail
  refine (C3.out _).mono ?_
  rintro e w3 ⟨rfl, hB3⟩
  go_wp2_with fail
  go_ret
  exact ⟨rfl, below_step (below_alloc (below_step (below_alloc (below_step (Below.refl _ _) hB1) _) hB2) _) hB3⟩
theorem unpacks_calls (s : ByteArray) (w : World) (hm : s.size ≤ 140737488351232) : Calls Try.prog 9 #[.string s] w fun e w' => e = .returned (.bool true) ∧ Below w.heap.size w w' := by
  by_cases hs : s.size = 16
  · exact unpacks_yes s w hs
  · exact unpacks_no s w hs hm
end Go.Proofs.Ytljkipkcabjcaaa.Arr
