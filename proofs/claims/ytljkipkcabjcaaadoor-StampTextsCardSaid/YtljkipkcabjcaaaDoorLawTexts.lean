/-
  The walk of the law StampTexts.
-/
import Derived.Test.YtljkipkcabjcaaaDoorParse
import Derived.Test.YtljkipkcabjcaaaDoorWEqStruct
import Derived.Lib.Hide
namespace Go.Proofs.YtljkipkcabjcaaaDoor.PStampParses
open Go.RowKit Go.Proofs.YtljkipkcabjcaaaDoorW.PrintWords Go.Proofs.YtljkipkcabjcaaaDoorW.PrintLast Go.Proofs.YtljkipkcabjcaaaDoorW.PrintMore
set_option linter.unusedVariables false
set_option linter.unusedSimpArgs false
theorem eqA25 (d : Nat) (w : World) (x0 y0 : Int) (x1 y1 : Int) (x2 y2 : Int) :
    (Op.equalIn (d + 2) 25 (.agg #[.int .u64 x0, .int .u32 x1, .int .u32 x2]) (.agg #[.int .u64 y0, .int .u32 y1, .int .u32 y2])).run Tryd.prog w = .ok (x0 == y0 && (x1 == y1 && (x2 == y2))) w := by
  refine eqA_of Tryd.underlying25 (by kernel_rfl) ?_
  refine eqf_cons (by rfl) (by go_simp; rfl) (by go_simp; rfl) (by go_simp) ?_
  refine eqf_cons (by rfl) (by go_simp; rfl) (by go_simp; rfl) (by go_simp) ?_
  exact eqf_last (by rfl) (by go_simp; rfl) (by go_simp; rfl) (by go_simp)
attribute [local go_sem high] eqA25
theorem texts_calls (a b c : Nat) (ha : a ≤ 18446744073709551615) (hb : b ≤ 4294967295) (hc : c ≤ 4294967295) (w : World) (hL : Laid w) :
    Calls Tryd.prog 3 #[.agg #[.int .u64 (a : Int), .int .u32 (b : Int), .int .u32 (c : Int)]] w fun e w' => e = .returned (.bool true) ∧ Below w.heap.size w w' := by
  have hu25 := Tryd.underlying25
  have HX := Lib.hid (show IsText (tB a b c) a b c from ⟨rfl, ha, hb, hc⟩)
  have CT := Lib.hid (fun w h => stamp_text a b c (by omega) (by omega) (by omega) w h)
  have CR := Lib.hid (fun w => ref_text a b c (by omega) (by omega) (by omega) w)
  have CP := Lib.hid (fun w h => stamp_parse (tB a b c) w h)
  generalize tB a b c = s at HX CT CR CP
  have HL1 := Lib.hid (hL.below (below_alloc (Below.refl _ _) (.cells #[.int .u64 (a : Int), .int .u32 (b : Int), .int .u32 (c : Int)] 25)))
  clear hL
  go_enter Tryd.func3, Tryd.ntmps3
  go_wp2_with fail
  have B1 : Below w.heap.size w (w.alloc (.cells #[.int .u64 (a : Int), .int .u32 (b : Int), .int .u32 (c : Int)] 25)) := below_alloc (Below.refl _ _) _
  have K1 := blk_new w (.cells #[.int .u64 (a : Int), .int .u32 (b : Int), .int .u32 (c : Int)] 25)
  refine (CT.out _ HL1.out.2.2).mono ?_
  rintro e w2 ⟨rfl, hb2⟩
  have L2 := Lib.hid (HL1.out.below hb2)
  have B2 := Lib.hid (below_step B1 hb2)
  have K2 := blk_below K1 hb2
  have k0 := (blk_cell K2 0).trans rfl
  have k1 := (blk_cell K2 1).trans rfl
  have k2 := (blk_cell K2 2).trans rfl
  clear B1 K1 HL1 hb2
  go_wp2_with fail
  refine (CR.out _).mono ?_
  rintro e w3 ⟨rfl, hb3⟩
  have L3 := Lib.hid (L2.out.below hb3)
  have B3 := Lib.hid (below_step B2.out hb3)
  have K3 := blk_below K2 hb3
  clear L2 B2 K2 hb3 k0 k1 k2
  go_wp2_with fail
  refine (CP.out _ L3.out).mono ?_
  rintro e w4 ⟨hT, hb4⟩
  have B4 := Lib.hid (below_step B3.out hb4)
  have K4 := blk_below K3 hb4
  clear L3 B3 K3 hb4
  rcases hT with ⟨a', b', c', hX, rfl⟩ | ⟨hN, _⟩
  · obtain ⟨rfl, rfl, rfl⟩ := isText_uniq HX.out hX
    clear hX
    have k0 := (blk_cell K4 0).trans rfl
    have k1 := (blk_cell K4 1).trans rfl
    have k2 := (blk_cell K4 2).trans rfl
    have l4 := blk_lt K4
    go_wp2_with fail
    go_ret
    exact ⟨rfl, below_alloc B4.out _⟩
  · exact absurd HX.out (hN _ _ _)
end Go.Proofs.YtljkipkcabjcaaaDoor.PStampParses
