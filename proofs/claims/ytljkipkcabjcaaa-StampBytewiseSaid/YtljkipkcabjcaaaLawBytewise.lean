/-
  The walk of the law StampBytewise: it returns true, for every two stamps.
-/
import Derived.Test.YtljkipkcabjcaaaPureBytewise
import Derived.Test.YtljkipkcabjcaaaPureCompares
import Derived.WalkLawsBesides
namespace Go.Proofs.Ytljkipkcabjcaaa.Arr
set_option linter.unusedSimpArgs false
set_option linter.unusedVariables false
open Go.RowKit Go.Proofs.YtljkipkcabjcaaaW.PrintWords Go.Proofs.YtljkipkcabjcaaaW.PrintLast Go.Proofs.YtljkipkcabjcaaaW.PrintMore
attribute [local go_sem high] PStampCompares.eqA25
theorem blk_new3 (w : World) (o p q : Obj) : (((w.alloc o).alloc p).alloc q).heap[w.heap.size + 2]? = some q := by
  have h := blk_new ((w.alloc o).alloc p) q
  rw [show ((w.alloc o).alloc p).heap.size = w.heap.size + 2 from by simp] at h
  exact h
theorem str_lt (a b c d e f : Int) (ha : 0 ≤ a ∧ a ≤ 18446744073709551615) (hb : 0 ≤ b ∧ b ≤ 4294967295) (hc : 0 ≤ c ∧ c ≤ 4294967295)
    (hd : 0 ≤ d ∧ d ≤ 18446744073709551615) (he : 0 ≤ e ∧ e ≤ 4294967295) (hf : 0 ≤ f ∧ f ≤ 4294967295) :
    Op.bytesLess (strOfNums (packL a b c)).toList (strOfNums (packL d e f)).toList = decide (a < d ∨ (a = d ∧ (b < e ∨ (b = e ∧ c < f)))) := by
  rw [← pack_lt a b c d e f ha hb hc hd he hf, ← bytesLess_ltL _ _ (pack_range a b c) (pack_range d e f), ByteArray.toList_eq, ByteArray.toList_eq]
  simp [strOfNums]
theorem str_eq (a b c d e f : Int) (ha : 0 ≤ a ∧ a ≤ 18446744073709551615) (hb : 0 ≤ b ∧ b ≤ 4294967295) (hc : 0 ≤ c ∧ c ≤ 4294967295)
    (hd : 0 ≤ d ∧ d ≤ 18446744073709551615) (he : 0 ≤ e ∧ e ≤ 4294967295) (hf : 0 ≤ f ∧ f ≤ 4294967295) :
    ((strOfNums (packL a b c)).toList == (strOfNums (packL d e f)).toList) = (a == d && (b == e && c == f)) := by
  rw [Bool.eq_iff_iff]
  simp only [Bool.and_eq_true, beq_iff_eq, ByteArray.toList_eq]
  constructor
  · intro h
    exact pack_inj a b c d e f ha hb hc hd he hf (by apply ByteArray.ext; apply Array.ext'; exact h)
  · rintro ⟨rfl, rfl, rfl⟩
    rfl
set_option maxHeartbeats 1000000 in
theorem bytewise_calls (a b c d e f : Int) (w : World) (ha : 0 ≤ a ∧ a ≤ 18446744073709551615) (hb : 0 ≤ b ∧ b ≤ 4294967295) (hc : 0 ≤ c ∧ c ≤ 4294967295)
    (hd : 0 ≤ d ∧ d ≤ 18446744073709551615) (he : 0 ≤ e ∧ e ≤ 4294967295) (hf : 0 ≤ f ∧ f ≤ 4294967295) :
    Calls Try.prog 7 #[.agg #[.int .u64 a, .int .u32 b, .int .u32 c, .int .u64 d, .int .u32 e, .int .u32 f]] w fun e w' => e = .returned (.bool true) ∧ Below w.heap.size w w' := by
  have C1 := Lib.hid (fun w => pack_calls a b c w ha hb hc)
  have C2 := Lib.hid (fun w => pack_calls d e f w hd he hf)
  have hs1 := pack_size a b c
  have hs2 := pack_size d e f
  have C3 := fun w => PStampCompares.stamp_Less.calls a b c d e f _ w (PStampCompares.less_is a b c d e f)
  have C4 := fun w => PStampCompares.stamp_Less.calls d e f a b c _ w (PStampCompares.less_is d e f a b c)
  rw [← str_lt a b c d e f ha hb hc hd he hf] at C3
  rw [← str_lt d e f a b c hd he hf ha hb hc] at C4
  have hq := str_eq a b c d e f ha hb hc hd he hf
  replace C3 := Lib.hid C3
  replace C4 := Lib.hid C4
  generalize strOfNums (packL a b c) = s at *
  generalize strOfNums (packL d e f) = t at *
  clear ha hb hc hd he hf
  have hd1 : ((s.size : Int) != 16) = false := by rw [hs1]; rfl
  have hd2 : ((t.size : Int) != 16) = false := by rw [hs2]; rfl
  clear hs1 hs2
  have hu25 := Try.underlying25
  go_enter Try.func7, Try.ntmps7
  go_wp2_with fail
  go_region
  all_goals go_wp2_with fail
  · refine (C1.out _).mono ?_
    rintro e w1 ⟨rfl, hB1⟩
    have hP1 : w1.heap[w.heap.size + 1]? = some (.cells #[.int .u64 a, .int .u32 b, .int .u32 c] 25 (0, 0)) := blk_below (blk_drew (blk_alloc (blk_new2 w _ _) _)) hB1
    have hQ1 : w1.heap[w.heap.size + 2]? = some (.cells #[.int .u64 d, .int .u32 e, .int .u32 f] 25 (0, 0)) := blk_below (blk_drew (blk_new3 w _ _ _)) hB1
    have k10 := (blk_cell hQ1 0).trans rfl
    have k11 := (blk_cell hQ1 1).trans rfl
    have k12 := (blk_cell hQ1 2).trans rfl
    go_wp2_with fail
    refine (C2.out _).mono ?_
    rintro e w2 ⟨rfl, hB2⟩
    have hP2 := blk_below hP1 hB2
    have hQ2 := blk_below hQ1 hB2
    clear k10 k11 k12
    have k10 := (blk_cell hP2 0).trans rfl
    have k11 := (blk_cell hP2 1).trans rfl
    have k12 := (blk_cell hP2 2).trans rfl
    have k20 := (blk_cell hQ2 0).trans rfl
    have k21 := (blk_cell hQ2 1).trans rfl
    have k22 := (blk_cell hQ2 2).trans rfl
    go_wp2_with fail
    refine (C3.out _).mono ?_
    rintro e w3 ⟨rfl, hB3⟩
    have hP3 := blk_below hP2 hB3
    have hQ3 := blk_below hQ2 hB3
    clear k10 k11 k12 k20 k21 k22
    have k10 := (blk_cell hP3 0).trans rfl
    have k11 := (blk_cell hP3 1).trans rfl
    have k12 := (blk_cell hP3 2).trans rfl
    have k20 := (blk_cell hQ3 0).trans rfl
    have k21 := (blk_cell hQ3 1).trans rfl
    have k22 := (blk_cell hQ3 2).trans rfl
    go_wp2_with fail
    refine (C4.out _).mono ?_
    rintro e w4 ⟨rfl, hB4⟩
    have hP4 := blk_below hP3 hB4
    have hQ4 := blk_below hQ3 hB4
    clear k10 k11 k12 k20 k21 k22
    have k10 := (blk_cell hP4 0).trans rfl
    have k11 := (blk_cell hP4 1).trans rfl
    have k12 := (blk_cell hP4 2).trans rfl
    have k20 := (blk_cell hQ4 0).trans rfl
    have k21 := (blk_cell hQ4 1).trans rfl
    have k22 := (blk_cell hQ4 2).trans rfl
    go_wp2_with fail
    go_ret
    exact ⟨rfl, below_step (below_step (below_step (below_step (below_drew1 (below_alloc (below_alloc (below_alloc (Below.refl _ _) _) _) _)) hB1) hB2) hB3) hB4⟩
  · refine (C1.out _).mono ?_
    rintro e w1 ⟨rfl, hB1⟩
    have hP1 : w1.heap[w.heap.size + 2]? = some (.cells #[.int .u64 a, .int .u32 b, .int .u32 c] 25 (0, 0)) := blk_below (blk_drew (blk_new3 w _ _ _)) hB1
    have hQ1 : w1.heap[w.heap.size + 1]? = some (.cells #[.int .u64 d, .int .u32 e, .int .u32 f] 25 (0, 0)) := blk_below (blk_drew (blk_alloc (blk_new2 w _ _) _)) hB1
    have k10 := (blk_cell hQ1 0).trans rfl
    have k11 := (blk_cell hQ1 1).trans rfl
    have k12 := (blk_cell hQ1 2).trans rfl
    go_wp2_with fail
    refine (C2.out _).mono ?_
    rintro e w2 ⟨rfl, hB2⟩
    have hP2 := blk_below hP1 hB2
    have hQ2 := blk_below hQ1 hB2
    clear k10 k11 k12
    have k10 := (blk_cell hP2 0).trans rfl
    have k11 := (blk_cell hP2 1).trans rfl
    have k12 := (blk_cell hP2 2).trans rfl
    have k20 := (blk_cell hQ2 0).trans rfl
    have k21 := (blk_cell hQ2 1).trans rfl
    have k22 := (blk_cell hQ2 2).trans rfl
    go_wp2_with fail
    refine (C3.out _).mono ?_
    rintro e w3 ⟨rfl, hB3⟩
    have hP3 := blk_below hP2 hB3
    have hQ3 := blk_below hQ2 hB3
    clear k10 k11 k12 k20 k21 k22
    have k10 := (blk_cell hP3 0).trans rfl
    have k11 := (blk_cell hP3 1).trans rfl
    have k12 := (blk_cell hP3 2).trans rfl
    have k20 := (blk_cell hQ3 0).trans rfl
    have k21 := (blk_cell hQ3 1).trans rfl
    have k22 := (blk_cell hQ3 2).trans rfl
    go_wp2_with fail
    refine (C4.out _).mono ?_
    rintro e w4 ⟨rfl, hB4⟩
    have hP4 := blk_below hP3 hB4
    have hQ4 := blk_below hQ3 hB4
    clear k10 k11 k12 k20 k21 k22
    have k10 := (blk_cell hP4 0).trans rfl
    have k11 := (blk_cell hP4 1).trans rfl
    have k12 := (blk_cell hP4 2).trans rfl
    have k20 := (blk_cell hQ4 0).trans rfl
    have k21 := (blk_cell hQ4 1).trans rfl
    have k22 := (blk_cell hQ4 2).trans rfl
    go_wp2_with fail
    go_ret
    exact ⟨rfl, below_step (below_step (below_step (below_step (below_drew1 (below_alloc (below_alloc (below_alloc (Below.refl _ _) _) _) _)) hB1) hB2) hB3) hB4⟩
end Go.Proofs.Ytljkipkcabjcaaa.Arr
