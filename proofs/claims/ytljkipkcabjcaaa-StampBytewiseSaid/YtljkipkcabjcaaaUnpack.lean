/-
  The walk of Unpack: the stamp of sixteen bytes, or the refusal.
-/
import Derived.Test.YtljkipkcabjcaaaLift
import Derived.Lib.BufferWrite
import Derived.Deep.RegionHeld3
import Derived.Deep.WholeRow
namespace Go.Proofs.Ytljkipkcabjcaaa.Arr
set_option linter.unusedSimpArgs false
set_option linter.unusedVariables false
open Go.RowKit Go.Proofs.YtljkipkcabjcaaaW.PrintWords Go.Proofs.YtljkipkcabjcaaaW.PrintLast Go.Proofs.YtljkipkcabjcaaaW.PrintMore
set_option maxHeartbeats 400000 in
theorem unpack_no (s : ByteArray) (w : World) (hs : s.size ≠ 16) (hm : s.size ≤ 140737488351232) :
    Calls Try.prog 25 #[.string s] w fun e w' => e = .returned (.tuple #[.agg #[.int .u64 0, .int .u32 0, .int .u32 0], .int .i64 10]) ∧ Below w.heap.size w w' := by
  have hd : ((s.size : Int) != 16) = true := by rw [bne_iff_ne]; omega
  go_enter Try.func25, Try.ntmps25
  go_wp2_with fail
  exact bodyPost_ret (v := .tuple #[.agg #[.int .u64 0, .int .u32 0, .int .u32 0], .int .i64 10]) (by simp [results, Try.results25, go_sem]) rfl ⟨rfl, ((Below.refl _ _).alloc (Nat.le_refl _) _)⟩
/-- The sixteen bytes of a text, copied into a new array behind another new block. -/
theorem copy16 (s : ByteArray) (W : World) (A : Obj) (hs : s.size = 16) :
    (Builtin.copy_ #[55, 9] 3 #[.slice (some ⟨W.heap.size + 1, 0, none⟩) 16 16, .string s]).run Try.prog ((W.alloc A).alloc (.cells #[.int .u8 0, .int .u8 0, .int .u8 0, .int .u8 0, .int .u8 0, .int .u8 0, .int .u8 0, .int .u8 0, .int .u8 0, .int .u8 0, .int .u8 0, .int .u8 0, .int .u8 0, .int .u8 0, .int .u8 0, .int .u8 0] 53))
      = .ok (goInt s.size) ((W.alloc A).alloc (.cells (nums .u8 (bytesOf s)).toArray 53)) := by
  have hg := blk_new2 W A (.cells #[.int .u8 0, .int .u8 0, .int .u8 0, .int .u8 0, .int .u8 0, .int .u8 0, .int .u8 0, .int .u8 0, .int .u8 0, .int .u8 0, .int .u8 0, .int .u8 0, .int .u8 0, .int .u8 0, .int .u8 0, .int .u8 0] 53)
  have kc := Lib.run_copy_row_string (P := Try.prog) _ 55 9 3 5 (W.heap.size + 1) 0 16 16 s _ 53 Try.underlying55 (by kernel_rfl) hg (by omega) (by simp; omega)
  refine kc.trans ?_
  congr 1
  have h1 : (W.alloc A).heap.size = W.heap.size + 1 := by simp
  have h2 := World.setRow_alloc_new (W.alloc A) #[.int .u8 0, .int .u8 0, .int .u8 0, .int .u8 0, .int .u8 0, .int .u8 0, .int .u8 0, .int .u8 0, .int .u8 0, .int .u8 0, .int .u8 0, .int .u8 0, .int .u8 0, .int .u8 0, .int .u8 0, .int .u8 0] (nums .u8 (bytesOf s)).toArray 53
  rw [h1] at h2
  rw [← h2]
  congr 1
  rw [hs, show (List.drop (0 + 16) #[Value.int .u8 0, .int .u8 0, .int .u8 0, .int .u8 0, .int .u8 0, .int .u8 0, .int .u8 0, .int .u8 0, .int .u8 0, .int .u8 0, .int .u8 0, .int .u8 0, .int .u8 0, .int .u8 0, .int .u8 0, .int .u8 0].toList) = [] from rfl, List.take_zero, List.nil_append, List.append_nil]
  simp [nums, bytesOf, Lib.byteCells]
/-- What sixteen bytes tell. -/
def stampOf (s : ByteArray) : Int × Int × Int := (num (((bytesOf s).drop 0).take 8), num (((bytesOf s).drop 8).take 4) % 4294967296, num (((bytesOf s).drop 12).take 4) % 4294967296)
theorem range_block {w : World} {g t : Nat} {cs : List Value} (h : w.heap[g]? = some (.cells cs.toArray t (0, 0))) : w.rangeAt g 0 cs := fun j v hv => by
  rw [blk_cell h, Nat.zero_add]
  simpa using hv
theorem set3 (cs : Array Value) (h : cs.size = 3) (x y z : Value) : ((cs.setIfInBounds 0 x).setIfInBounds 1 y).setIfInBounds 2 z = #[x, y, z] := by
  obtain ⟨l⟩ := cs
  match l, h with
  | [a, b, c], _ => rfl
theorem wrap_u32 (n : Int) : IntKind.u32.wrap n = n % 4294967296 := by simp [IntKind.wrap, IntKind.signed, IntKind.bits]
set_option maxHeartbeats 1000000 in
theorem unpack_yes (s : ByteArray) (w : World) (hs : s.size = 16) :
    Calls Try.prog 25 #[.string s] w fun e w' => e = .returned (.tuple #[.agg #[.int .u64 (stampOf s).1, .int .u32 (stampOf s).2.1, .int .u32 (stampOf s).2.2], .int .i64 0]) ∧ Below w.heap.size w w' := by
  have hd : ((s.size : Int) != 16) = false := by rw [hs]; rfl
  have hL : (bytesOf s).length = 16 := by rw [bytesOf_length, hs]
  have hR : ∀ x ∈ bytesOf s, 0 ≤ x ∧ x ≤ 255 := by
    intro x hx
    obtain ⟨b, _, rfl⟩ := List.mem_map.1 hx
    have := b.toNat_lt
    omega
  have kc := copy16 s w (.cells #[.int .u64 0, .int .u32 0, .int .u32 0] 25) hs
  have c1 : ∀ w : World, Calls Try.prog 33 #[.agg (nums .u8 (bytesOf s)).toArray, .int .i64 0, .int .i64 8] w fun e w' => e = .returned (.int .u64 (num (((bytesOf s).drop 0).take 8))) ∧ Below w.heap.size w w' := fun w => lift_calls 0 8 (bytesOf s) w (hl := hL) (hp := by omega) (hpn := by omega) (hx := hR)
  have c2 : ∀ w : World, Calls Try.prog 33 #[.agg (nums .u8 (bytesOf s)).toArray, .int .i64 8, .int .i64 4] w fun e w' => e = .returned (.int .u64 (num (((bytesOf s).drop 8).take 4))) ∧ Below w.heap.size w w' := fun w => lift_calls 8 4 (bytesOf s) w (hl := hL) (hp := by omega) (hpn := by omega) (hx := hR)
  have c3 : ∀ w : World, Calls Try.prog 33 #[.agg (nums .u8 (bytesOf s)).toArray, .int .i64 12, .int .i64 4] w fun e w' => e = .returned (.int .u64 (num (((bytesOf s).drop 12).take 4))) ∧ Below w.heap.size w w' := fun w => lift_calls 12 4 (bytesOf s) w (hl := hL) (hp := by omega) (hpn := by omega) (hx := hR)
  have hst : stampOf s = (num (((bytesOf s).drop 0).take 8), num (((bytesOf s).drop 8).take 4) % 4294967296, num (((bytesOf s).drop 12).take 4) % 4294967296) := rfl
  generalize stampOf s = st at *
  generalize bytesOf s = xs at *
  generalize hx1 : num ((xs.drop 0).take 8) = x1 at *
  generalize hx2 : num ((xs.drop 8).take 4) = x2 at *
  generalize hx3 : num ((xs.drop 12).take 4) = x3 at *
  clear hx1 hx2 hx3 hR
  have C1 := Lib.hid c1
  have C2 := Lib.hid c2
  have C3 := Lib.hid c3
  have HST := Lib.hid hst
  clear hs c1 c2 c3 hst
  have h1 : ∀ v ∈ nums .u8 xs, v.oneCell' = true := by
    intro v hv
    obtain ⟨b, _, rfl⟩ := List.mem_map.1 hv
    rfl
  have hln : (nums .u8 xs).length = 16 := by simp [nums, hL]
  have hu := Try.underlying53
  have hi : (Try.prog.info? 53).map (·.size) = some (nums .u8 xs).length := by rw [hln]; kernel_rfl
  go_enter Try.func25, Try.ntmps25
  go_wp2_with fail
  have hg0 := blk_alloc (blk_new w (.cells #[.int .u64 0, .int .u32 0, .int .u32 0] 25)) (.cells (nums .u8 xs).toArray 53)
  have hg1 := blk_new2 w (.cells #[.int .u64 0, .int .u32 0, .int .u32 0] 25) (.cells (nums .u8 xs).toArray 53)
  refine start_ (n := 11) (S := fun w' => w'.heap[w.heap.size + 1]? = some (.cells (nums .u8 xs).toArray 53 (0, 0)) ∧ ∃ cs : Array Value, w'.heap[w.heap.size]? = some (.cells cs 25 (0, 0)) ∧ cs.size = 3) (ds := []) #[false, false, false, false, false, false, false, false, false, false, false] (by kernel_rfl) rfl rfl ⟨hg1, _, hg0, rfl⟩ (fun hHeld => ?_)
  refine take_ (i := 0) (N := some 12) (a' := ?_) #[true, false, false, false, false, false, false, false, false, false, false] rfl rfl (by kernel_rfl) (fun _ _ _ h => h) (yieldsIf_load_mid rfl 53 (.tmp 4) rfl (w.heap.size + 1) 0 rfl (nums .u8 xs) _ (fun w' h => range_block h.1) hu rfl hi) hHeld ?_ ?_
  rotate_left
  · simp only [Act.put, List.setIfInBounds_toArray, List.set_cons_zero, List.set_cons_succ]
    rfl
  refine take_ (i := 2) (N := some 14) (a' := ?_) #[true, false, true, false, false, false, false, false, false, false, false] rfl rfl (by kernel_rfl) (fun _ _ _ h => h) (yieldsIf_load_mid rfl 53 (.tmp 4) rfl (w.heap.size + 1) 0 rfl (nums .u8 xs) _ (fun w' h => range_block h.1) hu rfl hi) hHeld ?_ ?_
  rotate_left
  · simp only [Act.put, List.setIfInBounds_toArray, List.set_cons_zero, List.set_cons_succ]
    rfl
  refine take_ (i := 5) (N := some 17) (a' := ?_) #[true, false, true, false, false, true, false, false, false, false, false] rfl rfl (by kernel_rfl) (fun _ _ _ h => h) (yieldsIf_load_mid rfl 53 (.tmp 4) rfl (w.heap.size + 1) 0 rfl (nums .u8 xs) _ (fun w' h => range_block h.1) hu rfl hi) hHeld ?_ ?_
  rotate_left
  · simp only [Act.put, List.setIfInBounds_toArray, List.set_cons_zero, List.set_cons_succ]
    rfl
  refine one_ (i := 1) (N := some 13) #[true, true, true, false, false, true, false, false, false, false, false] rfl rfl (by kernel_rfl) (by decide) (fun K hK => ?_)
  refine goes_ Try.func33 (by kernel_rfl) rfl #[.agg (nums .u8 xs).toArray, .int .i64 0, .int .i64 8] (by rfl) rfl rfl (by simp only [List.map_toArray, List.map_cons, List.map_nil]; rfl) ?_
  refine (C1.out _).mono ?_
  rintro e w1 ⟨rfl, hB1⟩
  refine ⟨_, rfl, ?_⟩
  refine hK.out _ _ (⟨blk_below hHeld.1 hB1, hHeld.2.choose, blk_below hHeld.2.choose_spec.1 hB1, hHeld.2.choose_spec.2⟩) (fun hHeld => ?_)
  clear hK K
  refine norm_ (a' := ?_) ?_ ?_
  rotate_left
  · show Act.put _ (some 13) _ = _
    simp only [Act.put, List.setIfInBounds_toArray, List.set_cons_zero, List.set_cons_succ]
    rfl
  refine one_ (i := 3) (N := some 15) #[true, true, true, true, false, true, false, false, false, false, false] rfl rfl (by kernel_rfl) (by decide) (fun K hK => ?_)
  refine goes_ Try.func33 (by kernel_rfl) rfl #[.agg (nums .u8 xs).toArray, .int .i64 8, .int .i64 4] (by rfl) rfl rfl (by simp only [List.map_toArray, List.map_cons, List.map_nil]; rfl) ?_
  refine (C2.out _).mono ?_
  rintro e w3 ⟨rfl, hB3⟩
  refine ⟨_, rfl, ?_⟩
  refine hK.out _ _ (⟨blk_below hHeld.1 hB3, hHeld.2.choose, blk_below hHeld.2.choose_spec.1 hB3, hHeld.2.choose_spec.2⟩) (fun hHeld => ?_)
  clear hK K
  refine norm_ (a' := ?_) ?_ ?_
  rotate_left
  · show Act.put _ (some 15) _ = _
    simp only [Act.put, List.setIfInBounds_toArray, List.set_cons_zero, List.set_cons_succ]
    rfl
  refine pure_ (i := 4) (N := some 16) (v := ?_) (a' := ?_) #[true, true, true, true, true, true, false, false, false, false, false] rfl rfl (by kernel_rfl) (fun _ _ _ h => h) (Or.inl ⟨by rfl, ?_⟩) ?_ ?_
  rotate_left
  · intro w'
    go_simp
    with_reducible rfl
  rotate_left
  · simp only [Act.put, List.setIfInBounds_toArray, List.set_cons_zero, List.set_cons_succ]
    rfl
  refine one_ (i := 6) (N := some 18) #[true, true, true, true, true, true, true, false, false, false, false] rfl rfl (by kernel_rfl) (by decide) (fun K hK => ?_)
  refine goes_ Try.func33 (by kernel_rfl) rfl #[.agg (nums .u8 xs).toArray, .int .i64 12, .int .i64 4] (by rfl) rfl rfl (by simp only [List.map_toArray, List.map_cons, List.map_nil]; rfl) ?_
  refine (C3.out _).mono ?_
  rintro e w6 ⟨rfl, hB6⟩
  refine ⟨_, rfl, ?_⟩
  refine hK.out _ _ (⟨blk_below hHeld.1 hB6, hHeld.2.choose, blk_below hHeld.2.choose_spec.1 hB6, hHeld.2.choose_spec.2⟩) (fun hHeld => ?_)
  clear hK K
  refine norm_ (a' := ?_) ?_ ?_
  rotate_left
  · show Act.put _ (some 18) _ = _
    simp only [Act.put, List.setIfInBounds_toArray, List.set_cons_zero, List.set_cons_succ]
    rfl
  refine pure_ (i := 7) (N := some 19) (v := ?_) (a' := ?_) #[true, true, true, true, true, true, true, true, false, false, false] rfl rfl (by kernel_rfl) (fun _ _ _ h => h) (Or.inl ⟨by rfl, ?_⟩) ?_ ?_
  rotate_left
  · intro w'
    go_simp
    with_reducible rfl
  rotate_left
  · simp only [Act.put, List.setIfInBounds_toArray, List.set_cons_zero, List.set_cons_succ]
    rfl
  refine pure_ (i := 8) (N := some 20) (v := ?_) (a' := ?_) #[true, true, true, true, true, true, true, true, true, false, false] rfl rfl (by kernel_rfl) (fun _ _ _ h => h) (Or.inl ⟨by rfl, ?_⟩) ?_ ?_
  rotate_left
  · intro w'
    go_simp
    with_reducible rfl
  rotate_left
  · simp only [Act.put, List.setIfInBounds_toArray, List.set_cons_zero, List.set_cons_succ]
    rfl
  refine one_ (i := 9) (N := none) #[true, true, true, true, true, true, true, true, true, true, false] rfl rfl (by kernel_rfl) (by decide) (fun K hK => ?_)
  obtain ⟨hA, cs, hcs, hsz⟩ := hHeld
  have k0 := (blk_cell hcs 0).trans (Array.getElem?_eq_getElem (by omega))
  have k1 := (blk_cell hcs 1).trans (Array.getElem?_eq_getElem (by omega))
  have k2 := (blk_cell hcs 2).trans (Array.getElem?_eq_getElem (by omega))
  have f0 := blk_frozen hcs 0
  have f1 := blk_frozen hcs 1
  have f2 := blk_frozen hcs 2
  have hfar : ∀ (i : Nat) (_ : Value), w.heap.size + 1 ≠ (⟨w.heap.size, i, none⟩ : Addr).block := fun _ _ => by simp
  have hset := fun (x y z : Value) => blk_put (blk_set (blk_set hcs 0 x) 1 y) 2 z (set3 cs hsz x y z)
  refine skip_ (w1 := ?_) (by rfl) rfl ?_ ?_
  rotate_left
  · go_simp
    rfl
  refine hK.out _ _ (⟨blk_far (blk_far (blk_far hA (hfar 0 undef) _) (hfar 1 undef) _) (hfar 2 undef) _, _, hset _ _ _, rfl⟩) (fun hHeld => ?_)
  clear hK K
  refine pure_ (i := 10) (N := some 3) (v := ?_) (a' := ?_) #[true, true, true, true, true, true, true, true, true, true, true] rfl rfl (by kernel_rfl) (fun _ _ _ h => h) (Or.inl ⟨by rfl, ?_⟩) ?_ ?_
  rotate_left
  · intro w'
    go_simp
    with_reducible rfl
  rotate_left
  · simp only [Act.put, List.setIfInBounds_toArray, List.set_cons_zero, List.set_cons_succ]
    rfl
  refine done_ (by kernel_rfl) ?_
  go_wp2_with fail
  refine bodyPost_ret (results_ct rfl _ _ w.heap.size 25 #[.int .u64 x1, .int .u32 (IntKind.u32.wrap x2), .int .u32 (IntKind.u32.wrap x3)] (0, 0) _ rfl (hset _ _ _) Try.underlying25 rfl (by kernel_rfl)) rfl ?_
  refine ⟨?_, ?_⟩
  · rw [HST.out, wrap_u32, wrap_u32]
    rfl
  · have hb := below_step (below_step (below_step (below_drew1 (below_alloc (below_alloc (Below.refl w.heap.size w) (.cells #[.int .u64 0, .int .u32 0, .int .u32 0] 25)) (.cells (nums .u8 xs).toArray 53))) hB1) hB3) hB6
    exact ((hb.setCell (Nat.le_refl _) _).setCell (Nat.le_refl _) _).setCell (Nat.le_refl _) _
end Go.Proofs.Ytljkipkcabjcaaa.Arr
