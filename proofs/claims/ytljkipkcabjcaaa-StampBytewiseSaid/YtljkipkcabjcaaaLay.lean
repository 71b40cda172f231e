/-
  The walk of lay: the n lowest bytes of a number are put into an array of sixteen bytes, from a place on, the highest first.
-/
import Derived.Test.YtljkipkcabjcaaaPStampUnpacksx
import Derived.Outline
import Derived.Lib.Hide
namespace Go.Proofs.Ytljkipkcabjcaaa.Arr
open Go.RowKit Go.Proofs.YtljkipkcabjcaaaW.PrintWords Go.Proofs.YtljkipkcabjcaaaW.PrintLast Go.Proofs.YtljkipkcabjcaaaW.PrintMore

/-- m bytes of u, from the place p on. -/
def layG (p : Nat) : Nat → Int → Array Value → Array Value
  | 0, _, cs => cs
  | m + 1, u, cs => layG p m (u / 256) (cs.setIfInBounds (p + m) (.int .u8 (u % 256)))

/-- What holds at the head of a round. -/
def LayI (g p n : Nat) (v : Int) (cs : Array Value) (w : World) (u i : Value) (wr : World) : Prop :=
  ∃ (m : Nat) (x : Int) (cs' : Array Value), i = .int .i64 ((m : Int) - 1) ∧ m ≤ n ∧ u = .int .u64 x ∧ 0 ≤ x ∧ x ≤ 18446744073709551615 ∧ cs'.size = 16 ∧ wr.heap[g]? = some (.cells cs' 53 (0, 0)) ∧ layG p m x cs' = layG p n v cs ∧ Below g w wr

set_option maxHeartbeats 400000 in
theorem lay_calls (g p n : Nat) (v : Int) (cs : Array Value) (w : World) (hb : w.heap[g]? = some (.cells cs 53 (0, 0))) (hs : cs.size = 16) (hpn : p + n ≤ 16) (h0 : 0 ≤ v) (h1 : v ≤ 18446744073709551615) :
    Calls Try.prog 31 #[.pointer (some ⟨g, 0, none⟩), .int .i64 p, .int .i64 n, .int .u64 v] w fun e w' => e = .returned (.tuple #[]) ∧ w'.heap[g]? = some (.cells (layG p n v cs) 53 (0, 0)) ∧ Below g w w' := by
  go_enter Try.func31, Try.ntmps31
  go_wp2_with fail
  go_loopw [3, 8] (fun u i wr => LayI g p n v cs w u i wr) (fun _ i _ => (intOf i + 1).toNat)
  case atStart => exact ⟨n, v, cs, rfl, Nat.le_refl _, rfl, h0, h1, hs, hb, rfl, Below.refl g w⟩
  case round =>
    obtain ⟨m, x, cs', rfl, hm, rfl, hx0, hx1, hs', hb', hl, hk⟩ := hrel
    rcases m with _ | m
    · have HL := Lib.hid hl
      clear hl
      go_wp2_with fail
      go_end0
      have hl := HL.out
      simp only [layG] at hl
      exact ⟨rfl, by rw [← hl]; exact hb', hk⟩
    · have e1 : ((m + 1 : Nat) : Int) - 1 = m := by omega
      rw [e1]
      have hbd : m < n := by omega
      have hcl : wr.cell? ⟨g, p + m, none⟩ = some (cs'[p + m]'(by omega)) := by rw [blk_cell hb']; exact Array.getElem?_eq_getElem _
      have hfr : wr.frozen? ⟨g, p + m, none⟩ = false := blk_frozen hb' _
      have HL := Lib.hid hl
      clear hl
      go_wp2_with fail
      refine ⟨⟨m, x / 256, cs'.setIfInBounds (p + m) (.int .u8 (x % 256)), rfl, by omega, rfl, by omega, by omega, by simp [hs'], blk_set hb' _ _, ?_, hk.setCell (Nat.le_refl _) _⟩, by simp [intOf]⟩
      have hl := HL.out
      simp only [layG] at hl
      exact hl

/-- The same over a list of bytes. -/
def layL (p : Nat) : Nat → Int → List Int → List Int
  | 0, _, xs => xs
  | m + 1, u, xs => layL p m (u / 256) (xs.set (p + m) (u % 256))
theorem layG_list (p m : Nat) : ∀ (u : Int) (xs : List Int), layG p m u (nums .u8 xs).toArray = (nums .u8 (layL p m u xs)).toArray := by
  induction m with
  | zero => intro u xs; rfl
  | succ m ih =>
    intro u xs
    simp only [layG, layL]
    rw [← ih]
    congr 1
    simp [nums, List.map_set]
theorem layL_length (p m : Nat) : ∀ (u : Int) (xs : List Int), (layL p m u xs).length = xs.length := by
  induction m with
  | zero => intro u xs; rfl
  | succ m ih =>
    intro u xs
    simp only [layL]
    rw [ih, List.length_set]
theorem lay_list (g p n : Nat) (v : Int) (xs : List Int) (w : World) (hb : w.heap[g]? = some (.cells (nums .u8 xs).toArray 53 (0, 0))) (hs : xs.length = 16) (hpn : p + n ≤ 16) (h0 : 0 ≤ v) (h1 : v ≤ 18446744073709551615) :
    Calls Try.prog 31 #[.pointer (some ⟨g, 0, none⟩), .int .i64 p, .int .i64 n, .int .u64 v] w fun e w' => e = .returned (.tuple #[]) ∧ w'.heap[g]? = some (.cells (nums .u8 (layL p n v xs)).toArray 53 (0, 0)) ∧ Below g w w' := by
  have h := lay_calls g p n v _ w hb (by simp [nums, hs]) hpn h0 h1
  rw [layG_list] at h
  exact h
end Go.Proofs.Ytljkipkcabjcaaa.Arr
