/-
  The walk of Pack: the sixteen bytes of a stamp.
-/
import Derived.Test.YtljkipkcabjcaaaLay
import Derived.Lib.ConvBytes
namespace Go.Proofs.Ytljkipkcabjcaaa.Arr
open Go.RowKit Go.Proofs.YtljkipkcabjcaaaW.PrintWords Go.Proofs.YtljkipkcabjcaaaW.PrintLast Go.Proofs.YtljkipkcabjcaaaW.PrintMore
theorem blk_new2 (w : World) (o p : Obj) : ((w.alloc o).alloc p).heap[w.heap.size + 1]? = some p := by
  have h := blk_new (w.alloc o) p
  rw [show (w.alloc o).heap.size = w.heap.size + 1 from by simp] at h
  exact h
/-- A block of whole numbers is read as a list of them. -/
theorem C_block {w : World} {g t : Nat} {k : IntKind} {xs : List Int} (h : w.heap[g]? = some (.cells (nums k xs).toArray t (0, 0))) (hl : xs.length ≤ 9223372036854775807) : (Kd.int k).C w (some ⟨g, 0, none⟩) xs.length xs := by
  refine ⟨rfl, hl, fun _ => ⟨_, rfl, fun j p hj => ⟨[.int k p], rfl, rfl, fun i u hi => ?_⟩⟩⟩
  match i, hi with
  | 0, hi =>
    simp only [List.getElem?_cons_zero, Option.some.injEq] at hi
    subst hi
    rw [show j * (Kd.int k).sz + 0 = j from by show j * 1 + 0 = j; omega, add_plain, blk_cell h]
    simp [nums, hj]
  | i + 1, hi => simp at hi
def zeros16 : List Int := [0, 0, 0, 0, 0, 0, 0, 0, 0, 0, 0, 0, 0, 0, 0, 0]
def packL (a b c : Int) : List Int := layL 12 4 c (layL 8 4 b (layL 0 8 a zeros16))
set_option maxHeartbeats 400000 in
theorem pack_calls (a b c : Int) (w : World) (ha : 0 ≤ a ∧ a ≤ 18446744073709551615) (hb : 0 ≤ b ∧ b ≤ 4294967295) (hc : 0 ≤ c ∧ c ≤ 4294967295) :
    Calls Try.prog 23 #[.agg #[.int .u64 a, .int .u32 b, .int .u32 c]] w fun e w' => e = .returned (.string (strOfNums (packL a b c))) ∧ Below w.heap.size w w' := by
  obtain ⟨a0, a1⟩ := ha
  obtain ⟨b0, b1⟩ := hb
  obtain ⟨c0, c1⟩ := hc
  go_enter Try.func23, Try.ntmps23
  go_wp2_with fail
  refine (lay_list _ 0 8 a zeros16 _ (blk_new2 w _ (.cells (nums .u8 zeros16).toArray 53)) rfl (by omega) a0 a1).mono ?_
  rintro e w1 ⟨rfl, hb1, hB1⟩
  have hA1 : w1.heap[w.heap.size]? = some (.cells #[.int .u64 a, .int .u32 b, .int .u32 c] 25 (0, 0)) := (hB1.block _ (by omega)).trans (blk_alloc (blk_new w _) _)
  have k1 := blk_cell hA1 1
  have k2 := blk_cell hA1 2
  go_wp2_with fail
  refine (lay_list _ 8 4 b _ _ hb1 (by simp [layL_length, zeros16]) (by omega) b0 (by omega)).mono ?_
  rintro e w2 ⟨rfl, hb2, hB2⟩
  have hA2 : w2.heap[w.heap.size]? = some (.cells #[.int .u64 a, .int .u32 b, .int .u32 c] 25 (0, 0)) := (hB2.block _ (by omega)).trans hA1
  have k3 := blk_cell hA2 2
  go_wp2_with fail
  refine (lay_list _ 12 4 c _ _ hb2 (by simp [layL_length, zeros16]) (by omega) c0 (by omega)).mono ?_
  rintro e w3 ⟨rfl, hb3, hB3⟩
  have hC := C_block hb3 (by simp [layL_length, zeros16])
  have kc := Kd.C_string (P := Try.prog) (src := 55) (dst := 9) (e := 5) (n := 16) (c := 16) Try.underlying55 Try.underlying5 Try.underlying9 (by simpa [layL_length, zeros16] using hC)
  go_wp2_with fail
  go_ret
  refine ⟨rfl, ?_⟩
  exact ((((Below.refl _ _).alloc (Nat.le_refl _) _).alloc (by simp) _).trans (hB1.mono (by omega))).trans ((hB2.trans hB3).mono (by omega))
end Go.Proofs.Ytljkipkcabjcaaa.Arr
