/-
  The walk of the law StampParses.
-/
import Derived.Test.YtljkipkcabjcaaaDoorRefParse
import Derived.Test.YtljkipkcabjcaaaDoorWEqStruct
import Derived.Lib.Hide
namespace Go.Proofs.YtljkipkcabjcaaaDoor.PStampParses
open Go.RowKit Go.Proofs.YtljkipkcabjcaaaDoorW.PrintWords Go.Proofs.YtljkipkcabjcaaaDoorW.PrintLast Go.Proofs.YtljkipkcabjcaaaDoorW.PrintMore
set_option linter.unusedVariables false
set_option linter.unusedSimpArgs false
theorem eqB25 (d : Nat) (w : World) (x0 y0 : Int) (x1 y1 : Int) (x2 y2 : Int) :
    (Op.equalIn (d + 2) 25 (.agg #[.int .u64 x0, .int .u32 x1, .int .u32 x2]) (.agg #[.int .u64 y0, .int .u32 y1, .int .u32 y2])).run Tryd.prog w = .ok (x0 == y0 && (x1 == y1 && (x2 == y2))) w := by
  refine eqA_of Tryd.underlying25 (by kernel_rfl) ?_
  refine eqf_cons (by rfl) (by go_simp; rfl) (by go_simp; rfl) (by go_simp) ?_
  refine eqf_cons (by rfl) (by go_simp; rfl) (by go_simp; rfl) (by go_simp) ?_
  exact eqf_last (by rfl) (by go_simp; rfl) (by go_simp; rfl) (by go_simp)
attribute [local go_sem high] eqB25
theorem parses_calls (s : ByteArray) (w : World) (hL : Laid w) : Calls Tryd.prog 4 #[.string s] w fun e w' => e = .returned (.bool true) ∧ Below w.heap.size w w' := by
  have hu25 := Tryd.underlying25
  have CP := Lib.hid (fun w h => stamp_parse s w h)
  have CR := Lib.hid (fun w => ref_parse s w)
  have CT := Lib.hid stamp_text
  have HL := Lib.hid hL
  clear hL
  go_enter Tryd.func4, Tryd.ntmps4
  go_wp2_with fail
  refine (CP.out _ HL.out).mono ?_
  rintro e w1 ⟨hT, hb1⟩
  have L1 := Lib.hid (HL.out.below hb1)
  rcases hT with ⟨a, b, c, hX, rfl⟩ | ⟨hN, rfl⟩
  · have HX := Lib.hid hX
    clear hX HL
    have Ka := blk_new w1 (.cells #[.int .u64 (a : Int), .int .u32 (b : Int), .int .u32 (c : Int)] 25)
    have Ba := below_alloc hb1 (.cells #[.int .u64 (a : Int), .int .u32 (b : Int), .int .u32 (c : Int)] 25)
    have La := Lib.hid (L1.out.below (below_alloc (Below.refl _ _) (.cells #[.int .u64 (a : Int), .int .u32 (b : Int), .int .u32 (c : Int)] 25)))
    replace hb1 := Lib.hid hb1
    clear L1
    go_wp2_with fail
    refine (CR.out _).mono ?_
    rintro e w2 ⟨hT, hb2⟩
    have K2 := blk_below Ka hb2
    have B2 := below_step Ba hb2
    have L2 := Lib.hid (La.out.below hb2)
    have hlt := blk_lt K2
    have hne : w1.heap.size ≠ w2.heap.size := by omega
    rcases hT with ⟨a', b', c', hX', rfl⟩ | ⟨hN, rfl⟩
    · obtain ⟨rfl, rfl, rfl⟩ := isText_uniq HX.out hX'
      have Kb := blk_alloc K2 (.cells #[.int .u64 (a : Int), .int .u32 (b : Int), .int .u32 (c : Int)] 25)
      have Kc := blk_new w2 (.cells #[.int .u64 (a : Int), .int .u32 (b : Int), .int .u32 (c : Int)] 25)
      have Bb := below_alloc B2 (.cells #[.int .u64 (a : Int), .int .u32 (b : Int), .int .u32 (c : Int)] 25)
      have Lb := Lib.hid (L2.out.below (below_alloc (Below.refl _ _) (.cells #[.int .u64 (a : Int), .int .u32 (b : Int), .int .u32 (c : Int)] 25)))
      replace B2 := Lib.hid B2
      clear hX' Ka Ba La hb2 K2
      have k0 := (blk_cell Kb 0).trans rfl
      have k1 := (blk_cell Kb 1).trans rfl
      have k2 := (blk_cell Kb 2).trans rfl
      have j0 := (blk_cell Kc 0).trans rfl
      have j1 := (blk_cell Kc 1).trans rfl
      have j2 := (blk_cell Kc 2).trans rfl
      have CT2 : Hid (∀ W : World, Lib.TabIs Tryd.prog W "internal/strconv.uint64pow10" .u64 Lib.pow10Tab → Calls Tryd.prog 5 #[.agg #[.int .u64 (a : Int), .int .u32 (b : Int), .int .u32 (c : Int)]] W fun e w' => e = .returned (.string s) ∧ Below W.heap.size W w') := Lib.hid fun W h => by
        have := CT.out a b c (by have := HX.out.2.1; omega) (by have := HX.out.2.2.1; omega) (by have := HX.out.2.2.2; omega) W h
        rwa [← HX.out.1] at this
      replace Bb := Lib.hid Bb
      clear CT
      go_wp2_with fail
      refine (CT2.out _ Lb.out.2.2).mono ?_
      rintro e w3 ⟨rfl, hb3⟩
      have B3 := Lib.hid (below_step Bb.out hb3)
      clear hb3 k0 k1 k2 j0 j1 j2 Kb Kc
      go_wp2_with fail
      go_ret
      exact ⟨rfl, B3.out⟩
    · exact absurd HX.out (hN _ _ _)
  · have HN := Lib.hid hN
    clear hN HL
    have Ka := blk_new w1 (.cells #[.int .u64 0, .int .u32 0, .int .u32 0] 25)
    have Ba := below_alloc hb1 (.cells #[.int .u64 0, .int .u32 0, .int .u32 0] 25)
    have La := Lib.hid (L1.out.below (below_alloc (Below.refl _ _) (.cells #[.int .u64 0, .int .u32 0, .int .u32 0] 25)))
    replace hb1 := Lib.hid hb1
    clear L1
    go_wp2_with fail
    refine (CR.out _).mono ?_
    rintro e w2 ⟨hT, hb2⟩
    have K2 := blk_below Ka hb2
    have B2 := below_step Ba hb2
    have L2 := Lib.hid (La.out.below hb2)
    have hlt := blk_lt K2
    have hne : w1.heap.size ≠ w2.heap.size := by omega
    rcases hT with ⟨a', b', c', hX', rfl⟩ | ⟨hN, rfl⟩
    · exact absurd hX' (HN.out _ _ _)
    · have Kb := blk_alloc K2 (.cells #[.int .u64 0, .int .u32 0, .int .u32 0] 25)
      have Kc := blk_new w2 (.cells #[.int .u64 0, .int .u32 0, .int .u32 0] 25)
      have Bb := below_alloc B2 (.cells #[.int .u64 0, .int .u32 0, .int .u32 0] 25)
      replace B2 := Lib.hid B2
      clear hN Ka Ba La hb2 K2
      have k0 := (blk_cell Kb 0).trans rfl
      have k1 := (blk_cell Kb 1).trans rfl
      have k2 := (blk_cell Kb 2).trans rfl
      have j0 := (blk_cell Kc 0).trans rfl
      have j1 := (blk_cell Kc 1).trans rfl
      have j2 := (blk_cell Kc 2).trans rfl
      replace Bb := Lib.hid Bb
      go_wp2_with fail
      go_ret
      exact ⟨rfl, Bb.out⟩
end Go.Proofs.YtljkipkcabjcaaaDoor.PStampParses
