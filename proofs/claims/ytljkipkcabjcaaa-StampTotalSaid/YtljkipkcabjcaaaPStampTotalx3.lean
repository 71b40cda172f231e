-- PRINTED BY print.sh 35421559b90ae4d0a3588c463048766b98c2df88dd9212a6774a882060cdf62d: not written by this session
import Derived.Test.YtljkipkcabjcaaaPStampTotalx0
import Derived.Test.YtljkipkcabjcaaaPStampTotalx1
import Derived.Test.YtljkipkcabjcaaaPStampTotalx2
namespace Go.Proofs.Ytljkipkcabjcaaa.PStampTotal
open Go.RowKit Go.Proofs.YtljkipkcabjcaaaW.PrintWords Go.Proofs.YtljkipkcabjcaaaW.PrintLast Go.Proofs.YtljkipkcabjcaaaW.PrintMore
attribute [local go_sem] max2_int min2_int max_two min_two max_three min_three max_four min_four   -- for this text's walks alone
set_option linter.unusedVariables false
set_option linter.unusedSimpArgs false

attribute [local go_sem high] eqA25
/-! ### tidemarklaw1_StampTotal: function 5 -/
mutual
def tidemarklaw1_StampTotal.j0 : Nat → Bool → Int → Int → Int → Int → Int → Int → Int → Int → Int → Option (Bool)
  | 0, _, _, _, _, _, _, _, _, _, _ => none
  | k + 1, x23, x108000, x108001, x108002, x109000, x109001, x109002, x110000, x110001, x110002 => if x23 = true then (some false) else ((stamp_Less.f x108000 x108001 x108002 x108000 x108001 x108002).bind fun t112 => (if t112 = true then (tidemarklaw1_StampTotal.j1 k true x108000 x108001 x108002 x109000 x109001 x109002 x110000 x110001 x110002) else ((stamp_Compare.f x108000 x108001 x108002 x109000 x109001 x109002).bind fun t113 => (tidemarklaw1_StampTotal.j1 k ((t113 == 0) != (x108000 == x109000 && (x108001 == x109001 && (x108002 == x109002)))) x108000 x108001 x108002 x109000 x109001 x109002 x110000 x110001 x110002))))
def tidemarklaw1_StampTotal.j1 : Nat → Bool → Int → Int → Int → Int → Int → Int → Int → Int → Int → Option (Bool)
  | 0, _, _, _, _, _, _, _, _, _, _ => none
  | k + 1, x36, x108000, x108001, x108002, x109000, x109001, x109002, x110000, x110001, x110002 => if x36 = true then (some false) else ((stamp_Less.f x108000 x108001 x108002 x109000 x109001 x109002).bind fun t114 => (if t114 = true then ((stamp_Less.f x109000 x109001 x109002 x110000 x110001 x110002).bind fun t115 => (if t115 = true then ((stamp_Less.f x108000 x108001 x108002 x110000 x110001 x110002).bind fun t116 => (some t116)) else (some true))) else (some true)))
end
def tidemarklaw1_StampTotal.f (k : Nat) (a0_0 : Int) (a0_1 : Int) (a0_2 : Int) (a0_3 : Int) (a0_4 : Int) (a0_5 : Int) (a0_6 : Int) (a0_7 : Int) (a0_8 : Int) : Option (Bool) := if (!(a0_0 == a0_3) || (!(a0_1 == a0_4) || (!(a0_2 == a0_5)))) = true then ((stamp_Less.f a0_0 a0_1 a0_2 a0_3 a0_4 a0_5).bind fun t110 => ((stamp_Less.f a0_3 a0_4 a0_5 a0_0 a0_1 a0_2).bind fun t111 => (tidemarklaw1_StampTotal.j0 k (t110 == t111) a0_0 a0_1 a0_2 a0_3 a0_4 a0_5 a0_6 a0_7 a0_8))) else (tidemarklaw1_StampTotal.j0 k false a0_0 a0_1 a0_2 a0_3 a0_4 a0_5 a0_6 a0_7 a0_8)
theorem tidemarklaw1_StampTotal.mono_l : ∀ k, (∀ y0 y1 y2 y3 y4 y5 y6 y7 y8 y9, LeO (tidemarklaw1_StampTotal.j0 k y0 y1 y2 y3 y4 y5 y6 y7 y8 y9) (tidemarklaw1_StampTotal.j0 (k + 1) y0 y1 y2 y3 y4 y5 y6 y7 y8 y9)) ∧ (∀ y0 y1 y2 y3 y4 y5 y6 y7 y8 y9, LeO (tidemarklaw1_StampTotal.j1 k y0 y1 y2 y3 y4 y5 y6 y7 y8 y9) (tidemarklaw1_StampTotal.j1 (k + 1) y0 y1 y2 y3 y4 y5 y6 y7 y8 y9))
  | 0 => ⟨fun _ _ _ _ _ _ _ _ _ _ r h => by simp [tidemarklaw1_StampTotal.j0] at h, fun _ _ _ _ _ _ _ _ _ _ r h => by simp [tidemarklaw1_StampTotal.j1] at h⟩
  | k + 1 => by
    obtain ⟨ih0, ih1⟩ := tidemarklaw1_StampTotal.mono_l k
    refine ⟨?_, ?_⟩
    · intro y0 y1 y2 y3 y4 y5 y6 y7 y8 y9
      unfold tidemarklaw1_StampTotal.j0
      repeat' first
      | (with_reducible exact ih0 _ _ _ _ _ _ _ _ _ _)
      | (with_reducible exact ih1 _ _ _ _ _ _ _ _ _ _)
      | (with_reducible exact LeO.refl _)
      | (with_reducible exact LeO.none _)
      | (with_reducible refine LeO.ite ?_ ?_)
      | (with_reducible refine LeO.bind ?_ (fun _ => ?_))
      | exact ih0 _ _ _ _ _ _ _ _ _ _
      | exact ih1 _ _ _ _ _ _ _ _ _ _
      | exact LeO.none _
      | refine LeO.ite ?_ ?_
      | refine LeO.bind ?_ (fun _ => ?_)
    · intro y0 y1 y2 y3 y4 y5 y6 y7 y8 y9
      unfold tidemarklaw1_StampTotal.j1
      repeat' first
      | (with_reducible exact ih0 _ _ _ _ _ _ _ _ _ _)
      | (with_reducible exact ih1 _ _ _ _ _ _ _ _ _ _)
      | (with_reducible exact LeO.refl _)
      | (with_reducible exact LeO.none _)
      | (with_reducible refine LeO.ite ?_ ?_)
      | (with_reducible refine LeO.bind ?_ (fun _ => ?_))
      | exact ih0 _ _ _ _ _ _ _ _ _ _
      | exact ih1 _ _ _ _ _ _ _ _ _ _
      | exact LeO.none _
      | refine LeO.ite ?_ ?_
      | refine LeO.bind ?_ (fun _ => ?_)
theorem tidemarklaw1_StampTotal.mono : ∀ a0 a1 a2 a3 a4 a5 a6 a7 a8 k, LeO (tidemarklaw1_StampTotal.f k a0 a1 a2 a3 a4 a5 a6 a7 a8) (tidemarklaw1_StampTotal.f (k + 1) a0 a1 a2 a3 a4 a5 a6 a7 a8) := by
  intro a0 a1 a2 a3 a4 a5 a6 a7 a8 k
  obtain ⟨ih0, ih1⟩ := tidemarklaw1_StampTotal.mono_l k
  unfold tidemarklaw1_StampTotal.f
  repeat' first
      | (with_reducible exact ih0 _ _ _ _ _ _ _ _ _ _)
      | (with_reducible exact ih1 _ _ _ _ _ _ _ _ _ _)
      | (with_reducible exact LeO.refl _)
      | (with_reducible exact LeO.none _)
      | (with_reducible refine LeO.ite ?_ ?_)
      | (with_reducible refine LeO.bind ?_ (fun _ => ?_))
      | exact ih0 _ _ _ _ _ _ _ _ _ _
      | exact ih1 _ _ _ _ _ _ _ _ _ _
      | exact LeO.none _
      | refine LeO.ite ?_ ?_
      | refine LeO.bind ?_ (fun _ => ?_)
def tidemarklaw1_StampTotal.T1 : Bool × List (List Nat × List Nat) := (true, [([], []), ([0], [0]), ([], []), ([2], [2]), ([], []), ([4], [4]), ([], []), ([], []), ([], []), ([6, 1, 0, 1, 6, 7, 8], [1, 6]), ([7, 3, 9, 0, 1, 2, 3, 6, 7, 8, 9], [3, 7]), ([8, 5, 10, 0, 1, 2, 3, 4, 5, 6, 7, 8, 9, 10], [5, 8])])
def tidemarklaw1_StampTotal.B1 : List Nat := [0, 1, 0, 4, 0, 16, 0, 0, 0, 451, 975, 2047]
theorem tidemarklaw1_StampTotal.tab1 : rtab .any (opsOf Try.f5 1) = tidemarklaw1_StampTotal.T1 := by kernel_rfl
theorem tidemarklaw1_StampTotal.bits1 : waitsOk tidemarklaw1_StampTotal.T1.2 tidemarklaw1_StampTotal.B1 = true := by kernel_rfl
def tidemarklaw1_StampTotal.T2 : Bool × List (List Nat × List Nat) := (true, [([], []), ([], []), ([0, 1], [0, 1]), ([2], [2]), ([3], [3]), ([3], [3]), ([4, 5, 3, 3], [3, 4, 5]), ([3], [3]), ([3], [3]), ([7, 8, 6, 3], [3, 7, 8]), ([6, 9, 3], [3, 6, 9]), ([3, 10], [3, 10])])
def tidemarklaw1_StampTotal.B2 : List Nat := [0, 0, 3, 7, 15, 15, 63, 15, 15, 511, 1023, 2047]
theorem tidemarklaw1_StampTotal.tab2 : rtab .any (opsOf Try.f5 2) = tidemarklaw1_StampTotal.T2 := by kernel_rfl
theorem tidemarklaw1_StampTotal.bits2 : waitsOk tidemarklaw1_StampTotal.T2.2 tidemarklaw1_StampTotal.B2 = true := by kernel_rfl
def tidemarklaw1_StampTotal.T4 : Bool × List (List Nat × List Nat) := (true, [([], []), ([], []), ([0, 1], [0, 1]), ([2, 2], [2]), ([3], [3]), ([3], [3]), ([4, 5, 3, 3], [3, 4, 5]), ([6, 3], [3, 6]), ([3], [3]), ([3], [3]), ([8, 9, 3], [3, 8, 9]), ([7, 10, 3], [3, 7, 10]), ([3, 11], [3, 11])])
def tidemarklaw1_StampTotal.B4 : List Nat := [0, 0, 3, 7, 15, 15, 63, 127, 15, 15, 783, 2047, 4095]
theorem tidemarklaw1_StampTotal.tab4 : rtab .any (opsOf Try.f5 4) = tidemarklaw1_StampTotal.T4 := by kernel_rfl
theorem tidemarklaw1_StampTotal.bits4 : waitsOk tidemarklaw1_StampTotal.T4.2 tidemarklaw1_StampTotal.B4 = true := by kernel_rfl
set_option maxHeartbeats 8000000 in
set_option maxRecDepth 100000 in
theorem tidemarklaw1_StampTotal.calls (k : Nat) (a0_0 : Int) (a0_1 : Int) (a0_2 : Int) (a0_3 : Int) (a0_4 : Int) (a0_5 : Int) (a0_6 : Int) (a0_7 : Int) (a0_8 : Int) (r : Bool) (w : World) (h : tidemarklaw1_StampTotal.f k a0_0 a0_1 a0_2 a0_3 a0_4 a0_5 a0_6 a0_7 a0_8 = some r) :
    Calls Try.prog 5 #[.agg #[.int .u64 a0_0, .int .u32 a0_1, .int .u32 a0_2, .int .u64 a0_3, .int .u32 a0_4, .int .u32 a0_5, .int .u64 a0_6, .int .u32 a0_7, .int .u32 a0_8]] w fun e w' => e = .returned (.bool r) ∧ Below w.heap.size w w' := by
  have hu39 := Try.underlying39
  have hu25 := Try.underlying25
  have HB := Aside0.mk (Below.refl w.heap.size w)
  have H : (if (!(a0_0 == a0_3) || (!(a0_1 == a0_4) || (!(a0_2 == a0_5)))) = true then ((stamp_Less.f a0_0 a0_1 a0_2 a0_3 a0_4 a0_5).bind fun t110 => ((stamp_Less.f a0_3 a0_4 a0_5 a0_0 a0_1 a0_2).bind fun t111 => (tidemarklaw1_StampTotal.j0 k (t110 == t111) a0_0 a0_1 a0_2 a0_3 a0_4 a0_5 a0_6 a0_7 a0_8))) else (tidemarklaw1_StampTotal.j0 k false a0_0 a0_1 a0_2 a0_3 a0_4 a0_5 a0_6 a0_7 a0_8)) = some r := h
  clear h
  have HC2 := Aside0.mk H
  clear H
  go_enter Try.func5, Try.ntmps5
  try go_wp2_with (first | ((with_reducible refine gate_dst (N := 1) rfl ?_); refine box_event ?hg (N := 1) ?hd (cs := #[.int .u64 a0_0, .int .u32 a0_1, .int .u32 a0_2, .int .u64 a0_3, .int .u32 a0_4, .int .u32 a0_5, .int .u64 a0_6, .int .u32 a0_7, .int .u32 a0_8]) (t := 39) ?hr ?_; (case hd => rfl); (case hg => rfl); (case hr => first | (go_simp; done) | (go_simp; rfl)); intro gb106 hg w3 hbox hb; have n0_ := Aside0.mk (below_step (by repeat (first | (with_reducible first | exact HB.out | apply below_alloc | apply pw_below_drewN | apply below_drew1) | exact HB.out)) hb); have n1_ := Aside0.mk (hbox); have n2_ := Aside0.mk ((by rw [hg]; exact (below_size (by repeat (first | (with_reducible first | exact HB.out | apply below_alloc | apply pw_below_drewN | apply below_drew1) | exact HB.out))) : w.heap.size ≤ gb106)); have n3_ := Aside0.mk ((by rw [hg]; exact (below_size (by repeat (first | (with_reducible first | exact HB.out | apply below_alloc | apply pw_below_drewN | apply below_drew1) | exact HB.out))) : w.heap.size ≤ gb106)); clear HB; have HB := n0_; have BK106 := n1_; have GW106 := n2_; have GE106 := n3_; clear n0_ n1_ n2_ n3_; clear hb hbox hg))
  have n0_ := Aside0.mk (blk_drew BK106.out)
  have n1_ := Aside0.mk (below_drew1 HB.out)
  clear BK106
  clear HB
  have BK106 := n0_
  have HB := n1_
  clear n0_ n1_
  refine start_ (n := 12) (S := fun w' => w'.cell? ⟨gb106, 0, none⟩ = some (.int .u64 a0_0) ∧ w'.cell? ⟨gb106, 1, none⟩ = some (.int .u32 a0_1) ∧ w'.cell? ⟨gb106, 2, none⟩ = some (.int .u32 a0_2) ∧ w'.cell? ⟨gb106, 3, none⟩ = some (.int .u64 a0_3) ∧ w'.cell? ⟨gb106, 4, none⟩ = some (.int .u32 a0_4) ∧ w'.cell? ⟨gb106, 5, none⟩ = some (.int .u32 a0_5) ∧ w'.cell? ⟨gb106, 6, none⟩ = some (.int .u64 a0_6) ∧ w'.cell? ⟨gb106, 7, none⟩ = some (.int .u32 a0_7) ∧ w'.cell? ⟨gb106, 8, none⟩ = some (.int .u32 a0_8)) (ds := []) #[false, false, false, false, false, false, false, false, false, false, false, false] (by kernel_rfl) rfl rfl ⟨(blk_cell BK106.out 0).trans rfl, (blk_cell BK106.out 1).trans rfl, (blk_cell BK106.out 2).trans rfl, (blk_cell BK106.out 3).trans rfl, (blk_cell BK106.out 4).trans rfl, (blk_cell BK106.out 5).trans rfl, (blk_cell BK106.out 6).trans rfl, (blk_cell BK106.out 7).trans rfl, (blk_cell BK106.out 8).trans rfl⟩ (fun hHeld => ?_); refine with_tabW tidemarklaw1_StampTotal.tab1 tidemarklaw1_StampTotal.bits1 (fun HT_ HW_ => ?_)
  generalize w3.drew = w4 at BK106 HB hHeld ⊢
  refine pure_ (i := 0) (N := some 6) (v := ?_) (a' := ?_) #[true, false, false, false, false, false, false, false, false, false, false, false] rfl rfl (any_of HT_.out (by kernel_rfl)) (fun _ _ _ h => h) (Or.inl ⟨by rfl, ?_⟩) ?_ ?_
  rotate_left
  · intro w'
    go_simp
    with_reducible rfl
  rotate_left
  · simp only [Act.put, List.setIfInBounds_toArray, List.set_cons_zero, List.set_cons_succ, i64_w, i32_w]
    rfl
  refine pure_ (i := 2) (N := some 8) (v := ?_) (a' := ?_) #[true, false, true, false, false, false, false, false, false, false, false, false] rfl rfl (any_of HT_.out (by kernel_rfl)) (fun _ _ _ h => h) (Or.inl ⟨by rfl, ?_⟩) ?_ ?_
  rotate_left
  · intro w'
    go_simp
    with_reducible rfl
  rotate_left
  · simp only [Act.put, List.setIfInBounds_toArray, List.set_cons_zero, List.set_cons_succ, i64_w, i32_w]
    rfl
  refine pure_ (i := 4) (N := some 10) (v := ?_) (a' := ?_) #[true, false, true, false, true, false, false, false, false, false, false, false] rfl rfl (any_of HT_.out (by kernel_rfl)) (fun _ _ _ h => h) (Or.inl ⟨by rfl, ?_⟩) ?_ ?_
  rotate_left
  · intro w'
    go_simp
    with_reducible rfl
  rotate_left
  · simp only [Act.put, List.setIfInBounds_toArray, List.set_cons_zero, List.set_cons_succ, i64_w, i32_w]
    rfl
  refine take_ (i := 1) (N := some 7) (v := ?_) (a' := ?_) #[true, true, true, false, true, false, false, false, false, false, false, false] rfl rfl (take_ofW HT_.out HW_.out (by kernel_rfl)) (fun _ _ _ h => h) (Or.inl ⟨by rfl, ?_⟩) hHeld ?_ ?_
  rotate_left
  · rintro w' ⟨s0, s1, s2, s3, s4, s5, s6, s7, s8⟩
    go_simp
    with_reducible rfl
  rotate_left
  · simp only [Act.put, List.setIfInBounds_toArray, List.set_cons_zero, List.set_cons_succ, i64_w, i32_w]
    rfl
  refine take_ (i := 3) (N := some 9) (v := ?_) (a' := ?_) #[true, true, true, true, true, false, false, false, false, false, false, false] rfl rfl (take_ofW HT_.out HW_.out (by kernel_rfl)) (fun _ _ _ h => h) (Or.inl ⟨by rfl, ?_⟩) hHeld ?_ ?_
  rotate_left
  · rintro w' ⟨s0, s1, s2, s3, s4, s5, s6, s7, s8⟩
    go_simp
    with_reducible rfl
  rotate_left
  · simp only [Act.put, List.setIfInBounds_toArray, List.set_cons_zero, List.set_cons_succ, i64_w, i32_w]
    rfl
  refine take_ (i := 5) (N := some 11) (v := ?_) (a' := ?_) #[true, true, true, true, true, true, false, false, false, false, false, false] rfl rfl (take_ofW HT_.out HW_.out (by kernel_rfl)) (fun _ _ _ h => h) (Or.inl ⟨by rfl, ?_⟩) hHeld ?_ ?_
  rotate_left
  · rintro w' ⟨s0, s1, s2, s3, s4, s5, s6, s7, s8⟩
    go_simp
    with_reducible rfl
  rotate_left
  · simp only [Act.put, List.setIfInBounds_toArray, List.set_cons_zero, List.set_cons_succ, i64_w, i32_w]
    rfl
  refine join_ (σ := Nat × Nat × Nat) 3 #[true, true, true, true, true, true, true, true, true, false, false, false] (fun s_ => [(3, .pointer (some ⟨s_.1, 0, none⟩)), (4, .pointer (some ⟨s_.2.1, 0, none⟩)), (5, .pointer (some ⟨s_.2.2, 0, none⟩))]) (fun s_ w' => (w'.cell? ⟨gb106, 0, none⟩ = some (.int .u64 a0_0) ∧ w'.cell? ⟨gb106, 1, none⟩ = some (.int .u32 a0_1) ∧ w'.cell? ⟨gb106, 2, none⟩ = some (.int .u32 a0_2) ∧ w'.cell? ⟨gb106, 3, none⟩ = some (.int .u64 a0_3) ∧ w'.cell? ⟨gb106, 4, none⟩ = some (.int .u32 a0_4) ∧ w'.cell? ⟨gb106, 5, none⟩ = some (.int .u32 a0_5) ∧ w'.cell? ⟨gb106, 6, none⟩ = some (.int .u64 a0_6) ∧ w'.cell? ⟨gb106, 7, none⟩ = some (.int .u32 a0_7) ∧ w'.cell? ⟨gb106, 8, none⟩ = some (.int .u32 a0_8)) ∧ (w'.heap[gb106]? = some (.cells #[.int .u64 a0_0, .int .u32 a0_1, .int .u32 a0_2, .int .u64 a0_3, .int .u32 a0_4, .int .u32 a0_5, .int .u64 a0_6, .int .u32 a0_7, .int .u32 a0_8] 39 (0, 0))) ∧ (w'.heap[s_.1]? = some (.cells #[.int .u64 0, .int .u32 0, .int .u32 0] 25 (0, 0))) ∧ (w'.heap[s_.2.1]? = some (.cells #[.int .u64 0, .int .u32 0, .int .u32 0] 25 (0, 0))) ∧ (w'.heap[s_.2.2]? = some (.cells #[.int .u64 0, .int .u32 0, .int .u32 0] 25 (0, 0))) ∧ (w.heap.size ≤ s_.1) ∧ (w.heap.size ≤ s_.1) ∧ (gb106 ≠ s_.1) ∧ (s_.1 ≠ gb106) ∧ (s_.2.1 ≠ s_.1) ∧ (s_.1 ≠ s_.2.1) ∧ (s_.2.2 ≠ s_.1) ∧ (s_.1 ≠ s_.2.2) ∧ (w.heap.size ≤ s_.2.1) ∧ (w.heap.size ≤ s_.2.1) ∧ (gb106 ≠ s_.2.1) ∧ (s_.2.1 ≠ gb106) ∧ (s_.2.2 ≠ s_.2.1) ∧ (s_.2.1 ≠ s_.2.2) ∧ (w.heap.size ≤ s_.2.2) ∧ (w.heap.size ≤ s_.2.2) ∧ (gb106 ≠ s_.2.2) ∧ (s_.2.2 ≠ gb106) ∧ (Below w.heap.size w w')) ?_ ?_
  rotate_left
  · intro hJ6_7_8
    refine join_ (σ := Nat × Nat) 4 #[true, true, true, true, true, true, true, true, false, false, false, false] (fun s_ => [(3, .pointer (some ⟨s_.1, 0, none⟩)), (4, .pointer (some ⟨s_.2, 0, none⟩))]) (fun s_ w' => (w'.cell? ⟨gb106, 0, none⟩ = some (.int .u64 a0_0) ∧ w'.cell? ⟨gb106, 1, none⟩ = some (.int .u32 a0_1) ∧ w'.cell? ⟨gb106, 2, none⟩ = some (.int .u32 a0_2) ∧ w'.cell? ⟨gb106, 3, none⟩ = some (.int .u64 a0_3) ∧ w'.cell? ⟨gb106, 4, none⟩ = some (.int .u32 a0_4) ∧ w'.cell? ⟨gb106, 5, none⟩ = some (.int .u32 a0_5) ∧ w'.cell? ⟨gb106, 6, none⟩ = some (.int .u64 a0_6) ∧ w'.cell? ⟨gb106, 7, none⟩ = some (.int .u32 a0_7) ∧ w'.cell? ⟨gb106, 8, none⟩ = some (.int .u32 a0_8)) ∧ (w'.heap[gb106]? = some (.cells #[.int .u64 a0_0, .int .u32 a0_1, .int .u32 a0_2, .int .u64 a0_3, .int .u32 a0_4, .int .u32 a0_5, .int .u64 a0_6, .int .u32 a0_7, .int .u32 a0_8] 39 (0, 0))) ∧ (w'.heap[s_.1]? = some (.cells #[.int .u64 0, .int .u32 0, .int .u32 0] 25 (0, 0))) ∧ (w'.heap[s_.2]? = some (.cells #[.int .u64 0, .int .u32 0, .int .u32 0] 25 (0, 0))) ∧ (w.heap.size ≤ s_.1) ∧ (w.heap.size ≤ s_.1) ∧ (gb106 ≠ s_.1) ∧ (s_.1 ≠ gb106) ∧ (s_.2 ≠ s_.1) ∧ (s_.1 ≠ s_.2) ∧ (w.heap.size ≤ s_.2) ∧ (w.heap.size ≤ s_.2) ∧ (gb106 ≠ s_.2) ∧ (s_.2 ≠ gb106) ∧ (Below w.heap.size w w')) ?_ ?_
    rotate_left
    · intro hJ6_7
      refine join_ (σ := Nat × Nat) 4 #[true, true, true, true, true, true, true, false, true, false, false, false] (fun s_ => [(3, .pointer (some ⟨s_.1, 0, none⟩)), (5, .pointer (some ⟨s_.2, 0, none⟩))]) (fun s_ w' => (w'.cell? ⟨gb106, 0, none⟩ = some (.int .u64 a0_0) ∧ w'.cell? ⟨gb106, 1, none⟩ = some (.int .u32 a0_1) ∧ w'.cell? ⟨gb106, 2, none⟩ = some (.int .u32 a0_2) ∧ w'.cell? ⟨gb106, 3, none⟩ = some (.int .u64 a0_3) ∧ w'.cell? ⟨gb106, 4, none⟩ = some (.int .u32 a0_4) ∧ w'.cell? ⟨gb106, 5, none⟩ = some (.int .u32 a0_5) ∧ w'.cell? ⟨gb106, 6, none⟩ = some (.int .u64 a0_6) ∧ w'.cell? ⟨gb106, 7, none⟩ = some (.int .u32 a0_7) ∧ w'.cell? ⟨gb106, 8, none⟩ = some (.int .u32 a0_8)) ∧ (w'.heap[gb106]? = some (.cells #[.int .u64 a0_0, .int .u32 a0_1, .int .u32 a0_2, .int .u64 a0_3, .int .u32 a0_4, .int .u32 a0_5, .int .u64 a0_6, .int .u32 a0_7, .int .u32 a0_8] 39 (0, 0))) ∧ (w'.heap[s_.1]? = some (.cells #[.int .u64 0, .int .u32 0, .int .u32 0] 25 (0, 0))) ∧ (w'.heap[s_.2]? = some (.cells #[.int .u64 0, .int .u32 0, .int .u32 0] 25 (0, 0))) ∧ (w.heap.size ≤ s_.1) ∧ (w.heap.size ≤ s_.1) ∧ (gb106 ≠ s_.1) ∧ (s_.1 ≠ gb106) ∧ (s_.2 ≠ s_.1) ∧ (s_.1 ≠ s_.2) ∧ (w.heap.size ≤ s_.2) ∧ (w.heap.size ≤ s_.2) ∧ (gb106 ≠ s_.2) ∧ (s_.2 ≠ gb106) ∧ (Below w.heap.size w w')) ?_ ?_
      rotate_left
      · intro hJ6_8
        refine join_ (σ := Nat × Nat) 4 #[true, true, true, true, true, true, false, true, true, false, false, false] (fun s_ => [(4, .pointer (some ⟨s_.1, 0, none⟩)), (5, .pointer (some ⟨s_.2, 0, none⟩))]) (fun s_ w' => (w'.cell? ⟨gb106, 0, none⟩ = some (.int .u64 a0_0) ∧ w'.cell? ⟨gb106, 1, none⟩ = some (.int .u32 a0_1) ∧ w'.cell? ⟨gb106, 2, none⟩ = some (.int .u32 a0_2) ∧ w'.cell? ⟨gb106, 3, none⟩ = some (.int .u64 a0_3) ∧ w'.cell? ⟨gb106, 4, none⟩ = some (.int .u32 a0_4) ∧ w'.cell? ⟨gb106, 5, none⟩ = some (.int .u32 a0_5) ∧ w'.cell? ⟨gb106, 6, none⟩ = some (.int .u64 a0_6) ∧ w'.cell? ⟨gb106, 7, none⟩ = some (.int .u32 a0_7) ∧ w'.cell? ⟨gb106, 8, none⟩ = some (.int .u32 a0_8)) ∧ (w'.heap[gb106]? = some (.cells #[.int .u64 a0_0, .int .u32 a0_1, .int .u32 a0_2, .int .u64 a0_3, .int .u32 a0_4, .int .u32 a0_5, .int .u64 a0_6, .int .u32 a0_7, .int .u32 a0_8] 39 (0, 0))) ∧ (w'.heap[s_.1]? = some (.cells #[.int .u64 0, .int .u32 0, .int .u32 0] 25 (0, 0))) ∧ (w'.heap[s_.2]? = some (.cells #[.int .u64 0, .int .u32 0, .int .u32 0] 25 (0, 0))) ∧ (w.heap.size ≤ s_.1) ∧ (w.heap.size ≤ s_.1) ∧ (gb106 ≠ s_.1) ∧ (s_.1 ≠ gb106) ∧ (s_.2 ≠ s_.1) ∧ (s_.1 ≠ s_.2) ∧ (w.heap.size ≤ s_.2) ∧ (w.heap.size ≤ s_.2) ∧ (gb106 ≠ s_.2) ∧ (s_.2 ≠ gb106) ∧ (Below w.heap.size w w')) ?_ ?_
        rotate_left
        · intro hJ7_8
          refine join_ (σ := Nat) 5 #[true, true, true, true, true, true, true, false, false, false, false, false] (fun s_ => [(3, .pointer (some ⟨s_, 0, none⟩))]) (fun s_ w' => (w'.cell? ⟨gb106, 0, none⟩ = some (.int .u64 a0_0) ∧ w'.cell? ⟨gb106, 1, none⟩ = some (.int .u32 a0_1) ∧ w'.cell? ⟨gb106, 2, none⟩ = some (.int .u32 a0_2) ∧ w'.cell? ⟨gb106, 3, none⟩ = some (.int .u64 a0_3) ∧ w'.cell? ⟨gb106, 4, none⟩ = some (.int .u32 a0_4) ∧ w'.cell? ⟨gb106, 5, none⟩ = some (.int .u32 a0_5) ∧ w'.cell? ⟨gb106, 6, none⟩ = some (.int .u64 a0_6) ∧ w'.cell? ⟨gb106, 7, none⟩ = some (.int .u32 a0_7) ∧ w'.cell? ⟨gb106, 8, none⟩ = some (.int .u32 a0_8)) ∧ (w'.heap[gb106]? = some (.cells #[.int .u64 a0_0, .int .u32 a0_1, .int .u32 a0_2, .int .u64 a0_3, .int .u32 a0_4, .int .u32 a0_5, .int .u64 a0_6, .int .u32 a0_7, .int .u32 a0_8] 39 (0, 0))) ∧ (w'.heap[s_]? = some (.cells #[.int .u64 0, .int .u32 0, .int .u32 0] 25 (0, 0))) ∧ (w.heap.size ≤ s_) ∧ (w.heap.size ≤ s_) ∧ (gb106 ≠ s_) ∧ (s_ ≠ gb106) ∧ (Below w.heap.size w w')) ?_ ?_
          rotate_left
          · intro hJ6
            refine join_ (σ := Nat) 5 #[true, true, true, true, true, true, false, true, false, false, false, false] (fun s_ => [(4, .pointer (some ⟨s_, 0, none⟩))]) (fun s_ w' => (w'.cell? ⟨gb106, 0, none⟩ = some (.int .u64 a0_0) ∧ w'.cell? ⟨gb106, 1, none⟩ = some (.int .u32 a0_1) ∧ w'.cell? ⟨gb106, 2, none⟩ = some (.int .u32 a0_2) ∧ w'.cell? ⟨gb106, 3, none⟩ = some (.int .u64 a0_3) ∧ w'.cell? ⟨gb106, 4, none⟩ = some (.int .u32 a0_4) ∧ w'.cell? ⟨gb106, 5, none⟩ = some (.int .u32 a0_5) ∧ w'.cell? ⟨gb106, 6, none⟩ = some (.int .u64 a0_6) ∧ w'.cell? ⟨gb106, 7, none⟩ = some (.int .u32 a0_7) ∧ w'.cell? ⟨gb106, 8, none⟩ = some (.int .u32 a0_8)) ∧ (w'.heap[gb106]? = some (.cells #[.int .u64 a0_0, .int .u32 a0_1, .int .u32 a0_2, .int .u64 a0_3, .int .u32 a0_4, .int .u32 a0_5, .int .u64 a0_6, .int .u32 a0_7, .int .u32 a0_8] 39 (0, 0))) ∧ (w'.heap[s_]? = some (.cells #[.int .u64 0, .int .u32 0, .int .u32 0] 25 (0, 0))) ∧ (w.heap.size ≤ s_) ∧ (w.heap.size ≤ s_) ∧ (gb106 ≠ s_) ∧ (s_ ≠ gb106) ∧ (Below w.heap.size w w')) ?_ ?_
            rotate_left
            · intro hJ7
              refine join_ (σ := Nat) 5 #[true, true, true, true, true, true, false, false, true, false, false, false] (fun s_ => [(5, .pointer (some ⟨s_, 0, none⟩))]) (fun s_ w' => (w'.cell? ⟨gb106, 0, none⟩ = some (.int .u64 a0_0) ∧ w'.cell? ⟨gb106, 1, none⟩ = some (.int .u32 a0_1) ∧ w'.cell? ⟨gb106, 2, none⟩ = some (.int .u32 a0_2) ∧ w'.cell? ⟨gb106, 3, none⟩ = some (.int .u64 a0_3) ∧ w'.cell? ⟨gb106, 4, none⟩ = some (.int .u32 a0_4) ∧ w'.cell? ⟨gb106, 5, none⟩ = some (.int .u32 a0_5) ∧ w'.cell? ⟨gb106, 6, none⟩ = some (.int .u64 a0_6) ∧ w'.cell? ⟨gb106, 7, none⟩ = some (.int .u32 a0_7) ∧ w'.cell? ⟨gb106, 8, none⟩ = some (.int .u32 a0_8)) ∧ (w'.heap[gb106]? = some (.cells #[.int .u64 a0_0, .int .u32 a0_1, .int .u32 a0_2, .int .u64 a0_3, .int .u32 a0_4, .int .u32 a0_5, .int .u64 a0_6, .int .u32 a0_7, .int .u32 a0_8] 39 (0, 0))) ∧ (w'.heap[s_]? = some (.cells #[.int .u64 0, .int .u32 0, .int .u32 0] 25 (0, 0))) ∧ (w.heap.size ≤ s_) ∧ (w.heap.size ≤ s_) ∧ (gb106 ≠ s_) ∧ (s_ ≠ gb106) ∧ (Below w.heap.size w w')) ?_ ?_
              rotate_left
              · intro hJ8
                refine three_ (i := 6) (j := 7) (k := 8) (Ni := some 3) (Nj := some 4) (Nk := some 5) #[true, true, true, true, true, true, true, false, false, false, false, false] #[true, true, true, true, true, true, false, true, false, false, false, false] #[true, true, true, true, true, true, false, false, true, false, false, false] rfl rfl rfl rfl rfl rfl (three_of HT_.out (by kernel_rfl)) (by decide) (by decide) (by decide) (fun K hK => ?_) (fun K hK => ?_) (fun K hK => ?_)
                · skip
                  refine box_step ?hg (N := 3) ?hd (cs := #[.int .u64 0, .int .u32 0, .int .u32 0]) (t := 25) ?hr ?_; (case hd => rfl); (case hg => rfl); (case hr => first | (go_simp; done) | (go_simp; rfl))
                  intro gb107 hg w5 hbox hb
                  have n0_ := Aside0.mk (blk_below (g := gb106) (o := .cells #[.int .u64 a0_0, .int .u32 a0_1, .int .u32 a0_2, .int .u64 a0_3, .int .u32 a0_4, .int .u32 a0_5, .int .u64 a0_6, .int .u32 a0_7, .int .u32 a0_8] 39 (0, 0)) (by (with_reducible repeat (first | refine blk_drewN ?_ _ | refine blk_drew ?_ | refine blk_alloc ?_ _)); exact BK106.out) hb)
                  have n1_ := Aside0.mk (below_step (by repeat (first | (with_reducible first | exact HB.out | apply below_alloc | apply pw_below_drewN | apply below_drew1 | refine below_set ?_ GE106.out) | exact HB.out)) hb)
                  have n2_ := Aside0.mk (hbox)
                  have n3_ := Aside0.mk ((by rw [hg]; exact (below_size (by repeat (first | (with_reducible first | exact HB.out | apply below_alloc | apply pw_below_drewN | apply below_drew1 | refine below_set ?_ GE106.out) | exact HB.out))) : w.heap.size ≤ gb107))
                  have n4_ := Aside0.mk ((by rw [hg]; exact (below_size (by repeat (first | (with_reducible first | exact HB.out | apply below_alloc | apply pw_below_drewN | apply below_drew1 | refine below_set ?_ GE106.out) | exact HB.out))) : w.heap.size ≤ gb107))
                  have n5_ := Aside0.mk ((by rw [hg]; exact Nat.ne_of_lt (blk_lt (g := gb106) (o := .cells #[.int .u64 a0_0, .int .u32 a0_1, .int .u32 a0_2, .int .u64 a0_3, .int .u32 a0_4, .int .u32 a0_5, .int .u64 a0_6, .int .u32 a0_7, .int .u32 a0_8] 39 (0, 0)) (by (with_reducible repeat (first | refine blk_drewN ?_ _ | refine blk_drew ?_ | refine blk_alloc ?_ _)); exact BK106.out)) : gb106 ≠ gb107))
                  have n6_ := Aside0.mk ((by rw [hg]; exact Nat.ne_of_gt (blk_lt (g := gb106) (o := .cells #[.int .u64 a0_0, .int .u32 a0_1, .int .u32 a0_2, .int .u64 a0_3, .int .u32 a0_4, .int .u32 a0_5, .int .u64 a0_6, .int .u32 a0_7, .int .u32 a0_8] 39 (0, 0)) (by (with_reducible repeat (first | refine blk_drewN ?_ _ | refine blk_drew ?_ | refine blk_alloc ?_ _)); exact BK106.out)) : gb107 ≠ gb106))
                  clear BK106
                  clear HB
                  have BK106 := n0_
                  have HB := n1_
                  have BK107 := n2_
                  have GW107 := n3_
                  have GE107 := n4_
                  have NB106_107 := n5_
                  have NB107_106 := n6_
                  clear n0_ n1_ n2_ n3_ n4_ n5_ n6_
                  clear hb hbox hg
                  refine hK.out _ _ ⟨(blk_cell BK106.out 0).trans rfl, (blk_cell BK106.out 1).trans rfl, (blk_cell BK106.out 2).trans rfl, (blk_cell BK106.out 3).trans rfl, (blk_cell BK106.out 4).trans rfl, (blk_cell BK106.out 5).trans rfl, (blk_cell BK106.out 6).trans rfl, (blk_cell BK106.out 7).trans rfl, (blk_cell BK106.out 8).trans rfl⟩ (fun hHeld => ?_)
                  clear hK K
                  refine norm_ (a' := ?_) ?_ ?_
                  rotate_left
                  · show Act.put _ (some 3) _ = _
                    simp only [Act.put, List.setIfInBounds_toArray, List.set_cons_zero, List.set_cons_succ, i64_w, i32_w]
                    rfl
                  exact norm_ (by first | (simp only [putAll, Act.put, List.setIfInBounds_toArray, List.set_cons_zero, List.set_cons_succ]; done) | (simp only [putAll, Act.put, List.setIfInBounds_toArray, List.set_cons_zero, List.set_cons_succ]; rfl)) (hJ6 (gb107) _ ⟨hHeld, (by (with_reducible repeat (first | refine blk_drewN ?_ _ | refine blk_drew ?_ | refine blk_alloc ?_ _)); exact BK106.out), (by (with_reducible repeat (first | refine blk_drewN ?_ _ | refine blk_drew ?_ | refine blk_alloc ?_ _)); exact BK107.out), GW107.out, GE107.out, NB106_107.out, NB107_106.out, (by repeat (first | (with_reducible first | exact HB.out | apply below_alloc | apply pw_below_drewN | apply below_drew1 | refine below_set ?_ GE106.out | refine below_set ?_ GE107.out) | exact HB.out))⟩)
                · skip
                  refine box_step ?hg (N := 4) ?hd (cs := #[.int .u64 0, .int .u32 0, .int .u32 0]) (t := 25) ?hr ?_; (case hd => rfl); (case hg => rfl); (case hr => first | (go_simp; done) | (go_simp; rfl))
                  intro gb108 hg w5 hbox hb
                  have n0_ := Aside0.mk (blk_below (g := gb106) (o := .cells #[.int .u64 a0_0, .int .u32 a0_1, .int .u32 a0_2, .int .u64 a0_3, .int .u32 a0_4, .int .u32 a0_5, .int .u64 a0_6, .int .u32 a0_7, .int .u32 a0_8] 39 (0, 0)) (by (with_reducible repeat (first | refine blk_drewN ?_ _ | refine blk_drew ?_ | refine blk_alloc ?_ _)); exact BK106.out) hb)
                  have n1_ := Aside0.mk (below_step (by repeat (first | (with_reducible first | exact HB.out | apply below_alloc | apply pw_below_drewN | apply below_drew1 | refine below_set ?_ GE106.out) | exact HB.out)) hb)
                  have n2_ := Aside0.mk (hbox)
                  have n3_ := Aside0.mk ((by rw [hg]; exact (below_size (by repeat (first | (with_reducible first | exact HB.out | apply below_alloc | apply pw_below_drewN | apply below_drew1 | refine below_set ?_ GE106.out) | exact HB.out))) : w.heap.size ≤ gb108))
                  have n4_ := Aside0.mk ((by rw [hg]; exact (below_size (by repeat (first | (with_reducible first | exact HB.out | apply below_alloc | apply pw_below_drewN | apply below_drew1 | refine below_set ?_ GE106.out) | exact HB.out))) : w.heap.size ≤ gb108))
                  have n5_ := Aside0.mk ((by rw [hg]; exact Nat.ne_of_lt (blk_lt (g := gb106) (o := .cells #[.int .u64 a0_0, .int .u32 a0_1, .int .u32 a0_2, .int .u64 a0_3, .int .u32 a0_4, .int .u32 a0_5, .int .u64 a0_6, .int .u32 a0_7, .int .u32 a0_8] 39 (0, 0)) (by (with_reducible repeat (first | refine blk_drewN ?_ _ | refine blk_drew ?_ | refine blk_alloc ?_ _)); exact BK106.out)) : gb106 ≠ gb108))
                  have n6_ := Aside0.mk ((by rw [hg]; exact Nat.ne_of_gt (blk_lt (g := gb106) (o := .cells #[.int .u64 a0_0, .int .u32 a0_1, .int .u32 a0_2, .int .u64 a0_3, .int .u32 a0_4, .int .u32 a0_5, .int .u64 a0_6, .int .u32 a0_7, .int .u32 a0_8] 39 (0, 0)) (by (with_reducible repeat (first | refine blk_drewN ?_ _ | refine blk_drew ?_ | refine blk_alloc ?_ _)); exact BK106.out)) : gb108 ≠ gb106))
                  clear BK106
                  clear HB
                  have BK106 := n0_
                  have HB := n1_
                  have BK108 := n2_
                  have GW108 := n3_
                  have GE108 := n4_
                  have NB106_108 := n5_
                  have NB108_106 := n6_
                  clear n0_ n1_ n2_ n3_ n4_ n5_ n6_
                  clear hb hbox hg
                  refine hK.out _ _ ⟨(blk_cell BK106.out 0).trans rfl, (blk_cell BK106.out 1).trans rfl, (blk_cell BK106.out 2).trans rfl, (blk_cell BK106.out 3).trans rfl, (blk_cell BK106.out 4).trans rfl, (blk_cell BK106.out 5).trans rfl, (blk_cell BK106.out 6).trans rfl, (blk_cell BK106.out 7).trans rfl, (blk_cell BK106.out 8).trans rfl⟩ (fun hHeld => ?_)
                  clear hK K
                  refine norm_ (a' := ?_) ?_ ?_
                  rotate_left
                  · show Act.put _ (some 4) _ = _
                    simp only [Act.put, List.setIfInBounds_toArray, List.set_cons_zero, List.set_cons_succ, i64_w, i32_w]
                    rfl
                  exact norm_ (by first | (simp only [putAll, Act.put, List.setIfInBounds_toArray, List.set_cons_zero, List.set_cons_succ]; done) | (simp only [putAll, Act.put, List.setIfInBounds_toArray, List.set_cons_zero, List.set_cons_succ]; rfl)) (hJ7 (gb108) _ ⟨hHeld, (by (with_reducible repeat (first | refine blk_drewN ?_ _ | refine blk_drew ?_ | refine blk_alloc ?_ _)); exact BK106.out), (by (with_reducible repeat (first | refine blk_drewN ?_ _ | refine blk_drew ?_ | refine blk_alloc ?_ _)); exact BK108.out), GW108.out, GE108.out, NB106_108.out, NB108_106.out, (by repeat (first | (with_reducible first | exact HB.out | apply below_alloc | apply pw_below_drewN | apply below_drew1 | refine below_set ?_ GE106.out | refine below_set ?_ GE108.out) | exact HB.out))⟩)
                · skip
                  refine box_step ?hg (N := 5) ?hd (cs := #[.int .u64 0, .int .u32 0, .int .u32 0]) (t := 25) ?hr ?_; (case hd => rfl); (case hg => rfl); (case hr => first | (go_simp; done) | (go_simp; rfl))
                  intro gb109 hg w5 hbox hb
                  have n0_ := Aside0.mk (blk_below (g := gb106) (o := .cells #[.int .u64 a0_0, .int .u32 a0_1, .int .u32 a0_2, .int .u64 a0_3, .int .u32 a0_4, .int .u32 a0_5, .int .u64 a0_6, .int .u32 a0_7, .int .u32 a0_8] 39 (0, 0)) (by (with_reducible repeat (first | refine blk_drewN ?_ _ | refine blk_drew ?_ | refine blk_alloc ?_ _)); exact BK106.out) hb)
                  have n1_ := Aside0.mk (below_step (by repeat (first | (with_reducible first | exact HB.out | apply below_alloc | apply pw_below_drewN | apply below_drew1 | refine below_set ?_ GE106.out) | exact HB.out)) hb)
                  have n2_ := Aside0.mk (hbox)
                  have n3_ := Aside0.mk ((by rw [hg]; exact (below_size (by repeat (first | (with_reducible first | exact HB.out | apply below_alloc | apply pw_below_drewN | apply below_drew1 | refine below_set ?_ GE106.out) | exact HB.out))) : w.heap.size ≤ gb109))
                  have n4_ := Aside0.mk ((by rw [hg]; exact (below_size (by repeat (first | (with_reducible first | exact HB.out | apply below_alloc | apply pw_below_drewN | apply below_drew1 | refine below_set ?_ GE106.out) | exact HB.out))) : w.heap.size ≤ gb109))
                  have n5_ := Aside0.mk ((by rw [hg]; exact Nat.ne_of_lt (blk_lt (g := gb106) (o := .cells #[.int .u64 a0_0, .int .u32 a0_1, .int .u32 a0_2, .int .u64 a0_3, .int .u32 a0_4, .int .u32 a0_5, .int .u64 a0_6, .int .u32 a0_7, .int .u32 a0_8] 39 (0, 0)) (by (with_reducible repeat (first | refine blk_drewN ?_ _ | refine blk_drew ?_ | refine blk_alloc ?_ _)); exact BK106.out)) : gb106 ≠ gb109))
                  have n6_ := Aside0.mk ((by rw [hg]; exact Nat.ne_of_gt (blk_lt (g := gb106) (o := .cells #[.int .u64 a0_0, .int .u32 a0_1, .int .u32 a0_2, .int .u64 a0_3, .int .u32 a0_4, .int .u32 a0_5, .int .u64 a0_6, .int .u32 a0_7, .int .u32 a0_8] 39 (0, 0)) (by (with_reducible repeat (first | refine blk_drewN ?_ _ | refine blk_drew ?_ | refine blk_alloc ?_ _)); exact BK106.out)) : gb109 ≠ gb106))
                  clear BK106
                  clear HB
                  have BK106 := n0_
                  have HB := n1_
                  have BK109 := n2_
                  have GW109 := n3_
                  have GE109 := n4_
                  have NB106_109 := n5_
                  have NB109_106 := n6_
                  clear n0_ n1_ n2_ n3_ n4_ n5_ n6_
                  clear hb hbox hg
                  refine hK.out _ _ ⟨(blk_cell BK106.out 0).trans rfl, (blk_cell BK106.out 1).trans rfl, (blk_cell BK106.out 2).trans rfl, (blk_cell BK106.out 3).trans rfl, (blk_cell BK106.out 4).trans rfl, (blk_cell BK106.out 5).trans rfl, (blk_cell BK106.out 6).trans rfl, (blk_cell BK106.out 7).trans rfl, (blk_cell BK106.out 8).trans rfl⟩ (fun hHeld => ?_)
                  clear hK K
                  refine norm_ (a' := ?_) ?_ ?_
                  rotate_left
                  · show Act.put _ (some 5) _ = _
                    simp only [Act.put, List.setIfInBounds_toArray, List.set_cons_zero, List.set_cons_succ, i64_w, i32_w]
                    rfl
                  exact norm_ (by first | (simp only [putAll, Act.put, List.setIfInBounds_toArray, List.set_cons_zero, List.set_cons_succ]; done) | (simp only [putAll, Act.put, List.setIfInBounds_toArray, List.set_cons_zero, List.set_cons_succ]; rfl)) (hJ8 (gb109) _ ⟨hHeld, (by (with_reducible repeat (first | refine blk_drewN ?_ _ | refine blk_drew ?_ | refine blk_alloc ?_ _)); exact BK106.out), (by (with_reducible repeat (first | refine blk_drewN ?_ _ | refine blk_drew ?_ | refine blk_alloc ?_ _)); exact BK109.out), GW109.out, GE109.out, NB106_109.out, NB109_106.out, (by repeat (first | (with_reducible first | exact HB.out | apply below_alloc | apply pw_below_drewN | apply below_drew1 | refine below_set ?_ GE106.out | refine below_set ?_ GE109.out) | exact HB.out))⟩)
              · skip
                rintro gb109 w6 ⟨hS_, h0_, h1_, h2_, h3_, h4_, h5_, h6_⟩
                have n0_ : Aside0 (w6.heap[gb106]? = some (.cells #[.int .u64 a0_0, .int .u32 a0_1, .int .u32 a0_2, .int .u64 a0_3, .int .u32 a0_4, .int .u32 a0_5, .int .u64 a0_6, .int .u32 a0_7, .int .u32 a0_8] 39 (0, 0))) := ⟨h0_⟩
                have n1_ : Aside0 (w6.heap[gb109]? = some (.cells #[.int .u64 0, .int .u32 0, .int .u32 0] 25 (0, 0))) := ⟨h1_⟩
                have n2_ : Aside0 (w.heap.size ≤ gb109) := ⟨h2_⟩
                have n3_ : Aside0 (w.heap.size ≤ gb109) := ⟨h3_⟩
                have n4_ : Aside0 (gb106 ≠ gb109) := ⟨h4_⟩
                have n5_ : Aside0 (gb109 ≠ gb106) := ⟨h5_⟩
                have n6_ : Aside0 (Below w.heap.size w w6) := ⟨h6_⟩
                clear BK106
                clear HB
                clear h0_ h1_ h2_ h3_ h4_ h5_ h6_
                have BK106 := n0_
                have BK109 := n1_
                have GW109 := n2_
                have GE109 := n3_
                have NB106_109 := n4_
                have NB109_106 := n5_
                have HB := n6_
                clear n0_ n1_ n2_ n3_ n4_ n5_ n6_
                have hHeld : w6.cell? ⟨gb106, 0, none⟩ = some (.int .u64 a0_0) ∧ w6.cell? ⟨gb106, 1, none⟩ = some (.int .u32 a0_1) ∧ w6.cell? ⟨gb106, 2, none⟩ = some (.int .u32 a0_2) ∧ w6.cell? ⟨gb106, 3, none⟩ = some (.int .u64 a0_3) ∧ w6.cell? ⟨gb106, 4, none⟩ = some (.int .u32 a0_4) ∧ w6.cell? ⟨gb106, 5, none⟩ = some (.int .u32 a0_5) ∧ w6.cell? ⟨gb106, 6, none⟩ = some (.int .u64 a0_6) ∧ w6.cell? ⟨gb106, 7, none⟩ = some (.int .u32 a0_7) ∧ w6.cell? ⟨gb106, 8, none⟩ = some (.int .u32 a0_8) := hS_
                refine norm_ (a' := ?_) ?_ ?_
                rotate_left
                · simp only [putAll, Act.put, List.setIfInBounds_toArray, List.set_cons_zero, List.set_cons_succ]
                  rfl
                refine two_ (i := 6) (j := 7) (Ni := some 3) (Nj := some 4) #[true, true, true, true, true, true, true, false, true, false, false, false] #[true, true, true, true, true, true, false, true, true, false, false, false] rfl rfl rfl rfl (two_of HT_.out (by kernel_rfl)) (by decide) (by decide) (fun K hK => ?_) (fun K hK => ?_)
                · skip
                  refine box_step ?hg (N := 3) ?hd (cs := #[.int .u64 0, .int .u32 0, .int .u32 0]) (t := 25) ?hr ?_; (case hd => rfl); (case hg => rfl); (case hr => first | (go_simp; done) | (go_simp; rfl))
                  intro gb107 hg w7 hbox hb
                  have n0_ := Aside0.mk (blk_below (g := gb106) (o := .cells #[.int .u64 a0_0, .int .u32 a0_1, .int .u32 a0_2, .int .u64 a0_3, .int .u32 a0_4, .int .u32 a0_5, .int .u64 a0_6, .int .u32 a0_7, .int .u32 a0_8] 39 (0, 0)) (by (with_reducible repeat (first | refine blk_drewN ?_ _ | refine blk_drew ?_ | refine blk_alloc ?_ _)); exact BK106.out) hb)
                  have n1_ := Aside0.mk (blk_below (g := gb109) (o := .cells #[.int .u64 0, .int .u32 0, .int .u32 0] 25 (0, 0)) (by (with_reducible repeat (first | refine blk_drewN ?_ _ | refine blk_drew ?_ | refine blk_alloc ?_ _)); exact BK109.out) hb)
                  have n2_ := Aside0.mk (below_step (by repeat (first | (with_reducible first | exact HB.out | apply below_alloc | apply pw_below_drewN | apply below_drew1 | refine below_set ?_ GE106.out | refine below_set ?_ GE109.out) | exact HB.out)) hb)
                  have n3_ := Aside0.mk (hbox)
                  have n4_ := Aside0.mk ((by rw [hg]; exact (below_size (by repeat (first | (with_reducible first | exact HB.out | apply below_alloc | apply pw_below_drewN | apply below_drew1 | refine below_set ?_ GE106.out | refine below_set ?_ GE109.out) | exact HB.out))) : w.heap.size ≤ gb107))
                  have n5_ := Aside0.mk ((by rw [hg]; exact (below_size (by repeat (first | (with_reducible first | exact HB.out | apply below_alloc | apply pw_below_drewN | apply below_drew1 | refine below_set ?_ GE106.out | refine below_set ?_ GE109.out) | exact HB.out))) : w.heap.size ≤ gb107))
                  have n6_ := Aside0.mk ((by rw [hg]; exact Nat.ne_of_lt (blk_lt (g := gb106) (o := .cells #[.int .u64 a0_0, .int .u32 a0_1, .int .u32 a0_2, .int .u64 a0_3, .int .u32 a0_4, .int .u32 a0_5, .int .u64 a0_6, .int .u32 a0_7, .int .u32 a0_8] 39 (0, 0)) (by (with_reducible repeat (first | refine blk_drewN ?_ _ | refine blk_drew ?_ | refine blk_alloc ?_ _)); exact BK106.out)) : gb106 ≠ gb107))
                  have n7_ := Aside0.mk ((by rw [hg]; exact Nat.ne_of_gt (blk_lt (g := gb106) (o := .cells #[.int .u64 a0_0, .int .u32 a0_1, .int .u32 a0_2, .int .u64 a0_3, .int .u32 a0_4, .int .u32 a0_5, .int .u64 a0_6, .int .u32 a0_7, .int .u32 a0_8] 39 (0, 0)) (by (with_reducible repeat (first | refine blk_drewN ?_ _ | refine blk_drew ?_ | refine blk_alloc ?_ _)); exact BK106.out)) : gb107 ≠ gb106))
                  have n8_ := Aside0.mk ((by rw [hg]; exact Nat.ne_of_lt (blk_lt (g := gb109) (o := .cells #[.int .u64 0, .int .u32 0, .int .u32 0] 25 (0, 0)) (by (with_reducible repeat (first | refine blk_drewN ?_ _ | refine blk_drew ?_ | refine blk_alloc ?_ _)); exact BK109.out)) : gb109 ≠ gb107))
                  have n9_ := Aside0.mk ((by rw [hg]; exact Nat.ne_of_gt (blk_lt (g := gb109) (o := .cells #[.int .u64 0, .int .u32 0, .int .u32 0] 25 (0, 0)) (by (with_reducible repeat (first | refine blk_drewN ?_ _ | refine blk_drew ?_ | refine blk_alloc ?_ _)); exact BK109.out)) : gb107 ≠ gb109))
                  clear BK106
                  clear BK109
                  clear HB
                  have BK106 := n0_
                  have BK109 := n1_
                  have HB := n2_
                  have BK107 := n3_
                  have GW107 := n4_
                  have GE107 := n5_
                  have NB106_107 := n6_
                  have NB107_106 := n7_
                  have NB109_107 := n8_
                  have NB107_109 := n9_
                  clear n0_ n1_ n2_ n3_ n4_ n5_ n6_ n7_ n8_ n9_
                  clear hb hbox hg
                  refine hK.out _ _ ⟨(blk_cell BK106.out 0).trans rfl, (blk_cell BK106.out 1).trans rfl, (blk_cell BK106.out 2).trans rfl, (blk_cell BK106.out 3).trans rfl, (blk_cell BK106.out 4).trans rfl, (blk_cell BK106.out 5).trans rfl, (blk_cell BK106.out 6).trans rfl, (blk_cell BK106.out 7).trans rfl, (blk_cell BK106.out 8).trans rfl⟩ (fun hHeld => ?_)
                  clear hK K
                  refine norm_ (a' := ?_) ?_ ?_
                  rotate_left
                  · show Act.put _ (some 3) _ = _
                    simp only [Act.put, List.setIfInBounds_toArray, List.set_cons_zero, List.set_cons_succ, i64_w, i32_w]
                    rfl
                  exact norm_ (by first | (simp only [putAll, Act.put, List.setIfInBounds_toArray, List.set_cons_zero, List.set_cons_succ]; done) | (simp only [putAll, Act.put, List.setIfInBounds_toArray, List.set_cons_zero, List.set_cons_succ]; rfl)) (hJ6_8 (gb107, gb109) _ ⟨hHeld, (by (with_reducible repeat (first | refine blk_drewN ?_ _ | refine blk_drew ?_ | refine blk_alloc ?_ _)); exact BK106.out), (by (with_reducible repeat (first | refine blk_drewN ?_ _ | refine blk_drew ?_ | refine blk_alloc ?_ _)); exact BK107.out), (by (with_reducible repeat (first | refine blk_drewN ?_ _ | refine blk_drew ?_ | refine blk_alloc ?_ _)); exact BK109.out), GW107.out, GE107.out, NB106_107.out, NB107_106.out, NB109_107.out, NB107_109.out, GW109.out, GE109.out, NB106_109.out, NB109_106.out, (by repeat (first | (with_reducible first | exact HB.out | apply below_alloc | apply pw_below_drewN | apply below_drew1 | refine below_set ?_ GE106.out | refine below_set ?_ GE109.out | refine below_set ?_ GE107.out) | exact HB.out))⟩)
                · skip
                  refine box_step ?hg (N := 4) ?hd (cs := #[.int .u64 0, .int .u32 0, .int .u32 0]) (t := 25) ?hr ?_; (case hd => rfl); (case hg => rfl); (case hr => first | (go_simp; done) | (go_simp; rfl))
                  intro gb108 hg w7 hbox hb
                  have n0_ := Aside0.mk (blk_below (g := gb106) (o := .cells #[.int .u64 a0_0, .int .u32 a0_1, .int .u32 a0_2, .int .u64 a0_3, .int .u32 a0_4, .int .u32 a0_5, .int .u64 a0_6, .int .u32 a0_7, .int .u32 a0_8] 39 (0, 0)) (by (with_reducible repeat (first | refine blk_drewN ?_ _ | refine blk_drew ?_ | refine blk_alloc ?_ _)); exact BK106.out) hb)
                  have n1_ := Aside0.mk (blk_below (g := gb109) (o := .cells #[.int .u64 0, .int .u32 0, .int .u32 0] 25 (0, 0)) (by (with_reducible repeat (first | refine blk_drewN ?_ _ | refine blk_drew ?_ | refine blk_alloc ?_ _)); exact BK109.out) hb)
                  have n2_ := Aside0.mk (below_step (by repeat (first | (with_reducible first | exact HB.out | apply below_alloc | apply pw_below_drewN | apply below_drew1 | refine below_set ?_ GE106.out | refine below_set ?_ GE109.out) | exact HB.out)) hb)
                  have n3_ := Aside0.mk (hbox)
                  have n4_ := Aside0.mk ((by rw [hg]; exact (below_size (by repeat (first | (with_reducible first | exact HB.out | apply below_alloc | apply pw_below_drewN | apply below_drew1 | refine below_set ?_ GE106.out | refine below_set ?_ GE109.out) | exact HB.out))) : w.heap.size ≤ gb108))
                  have n5_ := Aside0.mk ((by rw [hg]; exact (below_size (by repeat (first | (with_reducible first | exact HB.out | apply below_alloc | apply pw_below_drewN | apply below_drew1 | refine below_set ?_ GE106.out | refine below_set ?_ GE109.out) | exact HB.out))) : w.heap.size ≤ gb108))
                  have n6_ := Aside0.mk ((by rw [hg]; exact Nat.ne_of_lt (blk_lt (g := gb106) (o := .cells #[.int .u64 a0_0, .int .u32 a0_1, .int .u32 a0_2, .int .u64 a0_3, .int .u32 a0_4, .int .u32 a0_5, .int .u64 a0_6, .int .u32 a0_7, .int .u32 a0_8] 39 (0, 0)) (by (with_reducible repeat (first | refine blk_drewN ?_ _ | refine blk_drew ?_ | refine blk_alloc ?_ _)); exact BK106.out)) : gb106 ≠ gb108))
                  have n7_ := Aside0.mk ((by rw [hg]; exact Nat.ne_of_gt (blk_lt (g := gb106) (o := .cells #[.int .u64 a0_0, .int .u32 a0_1, .int .u32 a0_2, .int .u64 a0_3, .int .u32 a0_4, .int .u32 a0_5, .int .u64 a0_6, .int .u32 a0_7, .int .u32 a0_8] 39 (0, 0)) (by (with_reducible repeat (first | refine blk_drewN ?_ _ | refine blk_drew ?_ | refine blk_alloc ?_ _)); exact BK106.out)) : gb108 ≠ gb106))
                  have n8_ := Aside0.mk ((by rw [hg]; exact Nat.ne_of_lt (blk_lt (g := gb109) (o := .cells #[.int .u64 0, .int .u32 0, .int .u32 0] 25 (0, 0)) (by (with_reducible repeat (first | refine blk_drewN ?_ _ | refine blk_drew ?_ | refine blk_alloc ?_ _)); exact BK109.out)) : gb109 ≠ gb108))
                  have n9_ := Aside0.mk ((by rw [hg]; exact Nat.ne_of_gt (blk_lt (g := gb109) (o := .cells #[.int .u64 0, .int .u32 0, .int .u32 0] 25 (0, 0)) (by (with_reducible repeat (first | refine blk_drewN ?_ _ | refine blk_drew ?_ | refine blk_alloc ?_ _)); exact BK109.out)) : gb108 ≠ gb109))
                  clear BK106
                  clear BK109
                  clear HB
                  have BK106 := n0_
                  have BK109 := n1_
                  have HB := n2_
                  have BK108 := n3_
                  have GW108 := n4_
                  have GE108 := n5_
                  have NB106_108 := n6_
                  have NB108_106 := n7_
                  have NB109_108 := n8_
                  have NB108_109 := n9_
                  clear n0_ n1_ n2_ n3_ n4_ n5_ n6_ n7_ n8_ n9_
                  clear hb hbox hg
                  refine hK.out _ _ ⟨(blk_cell BK106.out 0).trans rfl, (blk_cell BK106.out 1).trans rfl, (blk_cell BK106.out 2).trans rfl, (blk_cell BK106.out 3).trans rfl, (blk_cell BK106.out 4).trans rfl, (blk_cell BK106.out 5).trans rfl, (blk_cell BK106.out 6).trans rfl, (blk_cell BK106.out 7).trans rfl, (blk_cell BK106.out 8).trans rfl⟩ (fun hHeld => ?_)
                  clear hK K
                  refine norm_ (a' := ?_) ?_ ?_
                  rotate_left
                  · show Act.put _ (some 4) _ = _
                    simp only [Act.put, List.setIfInBounds_toArray, List.set_cons_zero, List.set_cons_succ, i64_w, i32_w]
                    rfl
                  exact norm_ (by first | (simp only [putAll, Act.put, List.setIfInBounds_toArray, List.set_cons_zero, List.set_cons_succ]; done) | (simp only [putAll, Act.put, List.setIfInBounds_toArray, List.set_cons_zero, List.set_cons_succ]; rfl)) (hJ7_8 (gb108, gb109) _ ⟨hHeld, (by (with_reducible repeat (first | refine blk_drewN ?_ _ | refine blk_drew ?_ | refine blk_alloc ?_ _)); exact BK106.out), (by (with_reducible repeat (first | refine blk_drewN ?_ _ | refine blk_drew ?_ | refine blk_alloc ?_ _)); exact BK108.out), (by (with_reducible repeat (first | refine blk_drewN ?_ _ | refine blk_drew ?_ | refine blk_alloc ?_ _)); exact BK109.out), GW108.out, GE108.out, NB106_108.out, NB108_106.out, NB109_108.out, NB108_109.out, GW109.out, GE109.out, NB106_109.out, NB109_106.out, (by repeat (first | (with_reducible first | exact HB.out | apply below_alloc | apply pw_below_drewN | apply below_drew1 | refine below_set ?_ GE106.out | refine below_set ?_ GE109.out | refine below_set ?_ GE108.out) | exact HB.out))⟩)
            · skip
              rintro gb108 w6 ⟨hS_, h0_, h1_, h2_, h3_, h4_, h5_, h6_⟩
              have n0_ : Aside0 (w6.heap[gb106]? = some (.cells #[.int .u64 a0_0, .int .u32 a0_1, .int .u32 a0_2, .int .u64 a0_3, .int .u32 a0_4, .int .u32 a0_5, .int .u64 a0_6, .int .u32 a0_7, .int .u32 a0_8] 39 (0, 0))) := ⟨h0_⟩
              have n1_ : Aside0 (w6.heap[gb108]? = some (.cells #[.int .u64 0, .int .u32 0, .int .u32 0] 25 (0, 0))) := ⟨h1_⟩
              have n2_ : Aside0 (w.heap.size ≤ gb108) := ⟨h2_⟩
              have n3_ : Aside0 (w.heap.size ≤ gb108) := ⟨h3_⟩
              have n4_ : Aside0 (gb106 ≠ gb108) := ⟨h4_⟩
              have n5_ : Aside0 (gb108 ≠ gb106) := ⟨h5_⟩
              have n6_ : Aside0 (Below w.heap.size w w6) := ⟨h6_⟩
              clear BK106
              clear HB
              clear h0_ h1_ h2_ h3_ h4_ h5_ h6_
              have BK106 := n0_
              have BK108 := n1_
              have GW108 := n2_
              have GE108 := n3_
              have NB106_108 := n4_
              have NB108_106 := n5_
              have HB := n6_
              clear n0_ n1_ n2_ n3_ n4_ n5_ n6_
              have hHeld : w6.cell? ⟨gb106, 0, none⟩ = some (.int .u64 a0_0) ∧ w6.cell? ⟨gb106, 1, none⟩ = some (.int .u32 a0_1) ∧ w6.cell? ⟨gb106, 2, none⟩ = some (.int .u32 a0_2) ∧ w6.cell? ⟨gb106, 3, none⟩ = some (.int .u64 a0_3) ∧ w6.cell? ⟨gb106, 4, none⟩ = some (.int .u32 a0_4) ∧ w6.cell? ⟨gb106, 5, none⟩ = some (.int .u32 a0_5) ∧ w6.cell? ⟨gb106, 6, none⟩ = some (.int .u64 a0_6) ∧ w6.cell? ⟨gb106, 7, none⟩ = some (.int .u32 a0_7) ∧ w6.cell? ⟨gb106, 8, none⟩ = some (.int .u32 a0_8) := hS_
              refine norm_ (a' := ?_) ?_ ?_
              rotate_left
              · simp only [putAll, Act.put, List.setIfInBounds_toArray, List.set_cons_zero, List.set_cons_succ]
                rfl
              refine two_ (i := 6) (j := 8) (Ni := some 3) (Nj := some 5) #[true, true, true, true, true, true, true, true, false, false, false, false] #[true, true, true, true, true, true, false, true, true, false, false, false] rfl rfl rfl rfl (two_of HT_.out (by kernel_rfl)) (by decide) (by decide) (fun K hK => ?_) (fun K hK => ?_)
              · skip
                refine box_step ?hg (N := 3) ?hd (cs := #[.int .u64 0, .int .u32 0, .int .u32 0]) (t := 25) ?hr ?_; (case hd => rfl); (case hg => rfl); (case hr => first | (go_simp; done) | (go_simp; rfl))
                intro gb107 hg w7 hbox hb
                have n0_ := Aside0.mk (blk_below (g := gb106) (o := .cells #[.int .u64 a0_0, .int .u32 a0_1, .int .u32 a0_2, .int .u64 a0_3, .int .u32 a0_4, .int .u32 a0_5, .int .u64 a0_6, .int .u32 a0_7, .int .u32 a0_8] 39 (0, 0)) (by (with_reducible repeat (first | refine blk_drewN ?_ _ | refine blk_drew ?_ | refine blk_alloc ?_ _)); exact BK106.out) hb)
                have n1_ := Aside0.mk (blk_below (g := gb108) (o := .cells #[.int .u64 0, .int .u32 0, .int .u32 0] 25 (0, 0)) (by (with_reducible repeat (first | refine blk_drewN ?_ _ | refine blk_drew ?_ | refine blk_alloc ?_ _)); exact BK108.out) hb)
                have n2_ := Aside0.mk (below_step (by repeat (first | (with_reducible first | exact HB.out | apply below_alloc | apply pw_below_drewN | apply below_drew1 | refine below_set ?_ GE106.out | refine below_set ?_ GE108.out) | exact HB.out)) hb)
                have n3_ := Aside0.mk (hbox)
                have n4_ := Aside0.mk ((by rw [hg]; exact (below_size (by repeat (first | (with_reducible first | exact HB.out | apply below_alloc | apply pw_below_drewN | apply below_drew1 | refine below_set ?_ GE106.out | refine below_set ?_ GE108.out) | exact HB.out))) : w.heap.size ≤ gb107))
                have n5_ := Aside0.mk ((by rw [hg]; exact (below_size (by repeat (first | (with_reducible first | exact HB.out | apply below_alloc | apply pw_below_drewN | apply below_drew1 | refine below_set ?_ GE106.out | refine below_set ?_ GE108.out) | exact HB.out))) : w.heap.size ≤ gb107))
                have n6_ := Aside0.mk ((by rw [hg]; exact Nat.ne_of_lt (blk_lt (g := gb106) (o := .cells #[.int .u64 a0_0, .int .u32 a0_1, .int .u32 a0_2, .int .u64 a0_3, .int .u32 a0_4, .int .u32 a0_5, .int .u64 a0_6, .int .u32 a0_7, .int .u32 a0_8] 39 (0, 0)) (by (with_reducible repeat (first | refine blk_drewN ?_ _ | refine blk_drew ?_ | refine blk_alloc ?_ _)); exact BK106.out)) : gb106 ≠ gb107))
                have n7_ := Aside0.mk ((by rw [hg]; exact Nat.ne_of_gt (blk_lt (g := gb106) (o := .cells #[.int .u64 a0_0, .int .u32 a0_1, .int .u32 a0_2, .int .u64 a0_3, .int .u32 a0_4, .int .u32 a0_5, .int .u64 a0_6, .int .u32 a0_7, .int .u32 a0_8] 39 (0, 0)) (by (with_reducible repeat (first | refine blk_drewN ?_ _ | refine blk_drew ?_ | refine blk_alloc ?_ _)); exact BK106.out)) : gb107 ≠ gb106))
                have n8_ := Aside0.mk ((by rw [hg]; exact Nat.ne_of_lt (blk_lt (g := gb108) (o := .cells #[.int .u64 0, .int .u32 0, .int .u32 0] 25 (0, 0)) (by (with_reducible repeat (first | refine blk_drewN ?_ _ | refine blk_drew ?_ | refine blk_alloc ?_ _)); exact BK108.out)) : gb108 ≠ gb107))
                have n9_ := Aside0.mk ((by rw [hg]; exact Nat.ne_of_gt (blk_lt (g := gb108) (o := .cells #[.int .u64 0, .int .u32 0, .int .u32 0] 25 (0, 0)) (by (with_reducible repeat (first | refine blk_drewN ?_ _ | refine blk_drew ?_ | refine blk_alloc ?_ _)); exact BK108.out)) : gb107 ≠ gb108))
                clear BK106
                clear BK108
                clear HB
                have BK106 := n0_
                have BK108 := n1_
                have HB := n2_
                have BK107 := n3_
                have GW107 := n4_
                have GE107 := n5_
                have NB106_107 := n6_
                have NB107_106 := n7_
                have NB108_107 := n8_
                have NB107_108 := n9_
                clear n0_ n1_ n2_ n3_ n4_ n5_ n6_ n7_ n8_ n9_
                clear hb hbox hg
                refine hK.out _ _ ⟨(blk_cell BK106.out 0).trans rfl, (blk_cell BK106.out 1).trans rfl, (blk_cell BK106.out 2).trans rfl, (blk_cell BK106.out 3).trans rfl, (blk_cell BK106.out 4).trans rfl, (blk_cell BK106.out 5).trans rfl, (blk_cell BK106.out 6).trans rfl, (blk_cell BK106.out 7).trans rfl, (blk_cell BK106.out 8).trans rfl⟩ (fun hHeld => ?_)
                clear hK K
                refine norm_ (a' := ?_) ?_ ?_
                rotate_left
                · show Act.put _ (some 3) _ = _
                  simp only [Act.put, List.setIfInBounds_toArray, List.set_cons_zero, List.set_cons_succ, i64_w, i32_w]
                  rfl
                exact norm_ (by first | (simp only [putAll, Act.put, List.setIfInBounds_toArray, List.set_cons_zero, List.set_cons_succ]; done) | (simp only [putAll, Act.put, List.setIfInBounds_toArray, List.set_cons_zero, List.set_cons_succ]; rfl)) (hJ6_7 (gb107, gb108) _ ⟨hHeld, (by (with_reducible repeat (first | refine blk_drewN ?_ _ | refine blk_drew ?_ | refine blk_alloc ?_ _)); exact BK106.out), (by (with_reducible repeat (first | refine blk_drewN ?_ _ | refine blk_drew ?_ | refine blk_alloc ?_ _)); exact BK107.out), (by (with_reducible repeat (first | refine blk_drewN ?_ _ | refine blk_drew ?_ | refine blk_alloc ?_ _)); exact BK108.out), GW107.out, GE107.out, NB106_107.out, NB107_106.out, NB108_107.out, NB107_108.out, GW108.out, GE108.out, NB106_108.out, NB108_106.out, (by repeat (first | (with_reducible first | exact HB.out | apply below_alloc | apply pw_below_drewN | apply below_drew1 | refine below_set ?_ GE106.out | refine below_set ?_ GE108.out | refine below_set ?_ GE107.out) | exact HB.out))⟩)
              · skip
                refine box_step ?hg (N := 5) ?hd (cs := #[.int .u64 0, .int .u32 0, .int .u32 0]) (t := 25) ?hr ?_; (case hd => rfl); (case hg => rfl); (case hr => first | (go_simp; done) | (go_simp; rfl))
                intro gb109 hg w7 hbox hb
                have n0_ := Aside0.mk (blk_below (g := gb106) (o := .cells #[.int .u64 a0_0, .int .u32 a0_1, .int .u32 a0_2, .int .u64 a0_3, .int .u32 a0_4, .int .u32 a0_5, .int .u64 a0_6, .int .u32 a0_7, .int .u32 a0_8] 39 (0, 0)) (by (with_reducible repeat (first | refine blk_drewN ?_ _ | refine blk_drew ?_ | refine blk_alloc ?_ _)); exact BK106.out) hb)
                have n1_ := Aside0.mk (blk_below (g := gb108) (o := .cells #[.int .u64 0, .int .u32 0, .int .u32 0] 25 (0, 0)) (by (with_reducible repeat (first | refine blk_drewN ?_ _ | refine blk_drew ?_ | refine blk_alloc ?_ _)); exact BK108.out) hb)
                have n2_ := Aside0.mk (below_step (by repeat (first | (with_reducible first | exact HB.out | apply below_alloc | apply pw_below_drewN | apply below_drew1 | refine below_set ?_ GE106.out | refine below_set ?_ GE108.out) | exact HB.out)) hb)
                have n3_ := Aside0.mk (hbox)
                have n4_ := Aside0.mk ((by rw [hg]; exact (below_size (by repeat (first | (with_reducible first | exact HB.out | apply below_alloc | apply pw_below_drewN | apply below_drew1 | refine below_set ?_ GE106.out | refine below_set ?_ GE108.out) | exact HB.out))) : w.heap.size ≤ gb109))
                have n5_ := Aside0.mk ((by rw [hg]; exact (below_size (by repeat (first | (with_reducible first | exact HB.out | apply below_alloc | apply pw_below_drewN | apply below_drew1 | refine below_set ?_ GE106.out | refine below_set ?_ GE108.out) | exact HB.out))) : w.heap.size ≤ gb109))
                have n6_ := Aside0.mk ((by rw [hg]; exact Nat.ne_of_lt (blk_lt (g := gb106) (o := .cells #[.int .u64 a0_0, .int .u32 a0_1, .int .u32 a0_2, .int .u64 a0_3, .int .u32 a0_4, .int .u32 a0_5, .int .u64 a0_6, .int .u32 a0_7, .int .u32 a0_8] 39 (0, 0)) (by (with_reducible repeat (first | refine blk_drewN ?_ _ | refine blk_drew ?_ | refine blk_alloc ?_ _)); exact BK106.out)) : gb106 ≠ gb109))
                have n7_ := Aside0.mk ((by rw [hg]; exact Nat.ne_of_gt (blk_lt (g := gb106) (o := .cells #[.int .u64 a0_0, .int .u32 a0_1, .int .u32 a0_2, .int .u64 a0_3, .int .u32 a0_4, .int .u32 a0_5, .int .u64 a0_6, .int .u32 a0_7, .int .u32 a0_8] 39 (0, 0)) (by (with_reducible repeat (first | refine blk_drewN ?_ _ | refine blk_drew ?_ | refine blk_alloc ?_ _)); exact BK106.out)) : gb109 ≠ gb106))
                have n8_ := Aside0.mk ((by rw [hg]; exact Nat.ne_of_lt (blk_lt (g := gb108) (o := .cells #[.int .u64 0, .int .u32 0, .int .u32 0] 25 (0, 0)) (by (with_reducible repeat (first | refine blk_drewN ?_ _ | refine blk_drew ?_ | refine blk_alloc ?_ _)); exact BK108.out)) : gb108 ≠ gb109))
                have n9_ := Aside0.mk ((by rw [hg]; exact Nat.ne_of_gt (blk_lt (g := gb108) (o := .cells #[.int .u64 0, .int .u32 0, .int .u32 0] 25 (0, 0)) (by (with_reducible repeat (first | refine blk_drewN ?_ _ | refine blk_drew ?_ | refine blk_alloc ?_ _)); exact BK108.out)) : gb109 ≠ gb108))
                clear BK106
                clear BK108
                clear HB
                have BK106 := n0_
                have BK108 := n1_
                have HB := n2_
                have BK109 := n3_
                have GW109 := n4_
                have GE109 := n5_
                have NB106_109 := n6_
                have NB109_106 := n7_
                have NB108_109 := n8_
                have NB109_108 := n9_
                clear n0_ n1_ n2_ n3_ n4_ n5_ n6_ n7_ n8_ n9_
                clear hb hbox hg
                refine hK.out _ _ ⟨(blk_cell BK106.out 0).trans rfl, (blk_cell BK106.out 1).trans rfl, (blk_cell BK106.out 2).trans rfl, (blk_cell BK106.out 3).trans rfl, (blk_cell BK106.out 4).trans rfl, (blk_cell BK106.out 5).trans rfl, (blk_cell BK106.out 6).trans rfl, (blk_cell BK106.out 7).trans rfl, (blk_cell BK106.out 8).trans rfl⟩ (fun hHeld => ?_)
                clear hK K
                refine norm_ (a' := ?_) ?_ ?_
                rotate_left
                · show Act.put _ (some 5) _ = _
                  simp only [Act.put, List.setIfInBounds_toArray, List.set_cons_zero, List.set_cons_succ, i64_w, i32_w]
                  rfl
                exact norm_ (by first | (simp only [putAll, Act.put, List.setIfInBounds_toArray, List.set_cons_zero, List.set_cons_succ]; done) | (simp only [putAll, Act.put, List.setIfInBounds_toArray, List.set_cons_zero, List.set_cons_succ]; rfl)) (hJ7_8 (gb108, gb109) _ ⟨hHeld, (by (with_reducible repeat (first | refine blk_drewN ?_ _ | refine blk_drew ?_ | refine blk_alloc ?_ _)); exact BK106.out), (by (with_reducible repeat (first | refine blk_drewN ?_ _ | refine blk_drew ?_ | refine blk_alloc ?_ _)); exact BK108.out), (by (with_reducible repeat (first | refine blk_drewN ?_ _ | refine blk_drew ?_ | refine blk_alloc ?_ _)); exact BK109.out), GW108.out, GE108.out, NB106_108.out, NB108_106.out, NB109_108.out, NB108_109.out, GW109.out, GE109.out, NB106_109.out, NB109_106.out, (by repeat (first | (with_reducible first | exact HB.out | apply below_alloc | apply pw_below_drewN | apply below_drew1 | refine below_set ?_ GE106.out | refine below_set ?_ GE108.out | refine below_set ?_ GE109.out) | exact HB.out))⟩)
          · skip
            rintro gb107 w6 ⟨hS_, h0_, h1_, h2_, h3_, h4_, h5_, h6_⟩
            have n0_ : Aside0 (w6.heap[gb106]? = some (.cells #[.int .u64 a0_0, .int .u32 a0_1, .int .u32 a0_2, .int .u64 a0_3, .int .u32 a0_4, .int .u32 a0_5, .int .u64 a0_6, .int .u32 a0_7, .int .u32 a0_8] 39 (0, 0))) := ⟨h0_⟩
            have n1_ : Aside0 (w6.heap[gb107]? = some (.cells #[.int .u64 0, .int .u32 0, .int .u32 0] 25 (0, 0))) := ⟨h1_⟩
            have n2_ : Aside0 (w.heap.size ≤ gb107) := ⟨h2_⟩
            have n3_ : Aside0 (w.heap.size ≤ gb107) := ⟨h3_⟩
            have n4_ : Aside0 (gb106 ≠ gb107) := ⟨h4_⟩
            have n5_ : Aside0 (gb107 ≠ gb106) := ⟨h5_⟩
            have n6_ : Aside0 (Below w.heap.size w w6) := ⟨h6_⟩
            clear BK106
            clear HB
            clear h0_ h1_ h2_ h3_ h4_ h5_ h6_
            have BK106 := n0_
            have BK107 := n1_
            have GW107 := n2_
            have GE107 := n3_
            have NB106_107 := n4_
            have NB107_106 := n5_
            have HB := n6_
            clear n0_ n1_ n2_ n3_ n4_ n5_ n6_
            have hHeld : w6.cell? ⟨gb106, 0, none⟩ = some (.int .u64 a0_0) ∧ w6.cell? ⟨gb106, 1, none⟩ = some (.int .u32 a0_1) ∧ w6.cell? ⟨gb106, 2, none⟩ = some (.int .u32 a0_2) ∧ w6.cell? ⟨gb106, 3, none⟩ = some (.int .u64 a0_3) ∧ w6.cell? ⟨gb106, 4, none⟩ = some (.int .u32 a0_4) ∧ w6.cell? ⟨gb106, 5, none⟩ = some (.int .u32 a0_5) ∧ w6.cell? ⟨gb106, 6, none⟩ = some (.int .u64 a0_6) ∧ w6.cell? ⟨gb106, 7, none⟩ = some (.int .u32 a0_7) ∧ w6.cell? ⟨gb106, 8, none⟩ = some (.int .u32 a0_8) := hS_
            refine norm_ (a' := ?_) ?_ ?_
            rotate_left
            · simp only [putAll, Act.put, List.setIfInBounds_toArray, List.set_cons_zero, List.set_cons_succ]
              rfl
            refine two_ (i := 7) (j := 8) (Ni := some 4) (Nj := some 5) #[true, true, true, true, true, true, true, true, false, false, false, false] #[true, true, true, true, true, true, true, false, true, false, false, false] rfl rfl rfl rfl (two_of HT_.out (by kernel_rfl)) (by decide) (by decide) (fun K hK => ?_) (fun K hK => ?_)
            · skip
              refine box_step ?hg (N := 4) ?hd (cs := #[.int .u64 0, .int .u32 0, .int .u32 0]) (t := 25) ?hr ?_; (case hd => rfl); (case hg => rfl); (case hr => first | (go_simp; done) | (go_simp; rfl))
              intro gb108 hg w7 hbox hb
              have n0_ := Aside0.mk (blk_below (g := gb106) (o := .cells #[.int .u64 a0_0, .int .u32 a0_1, .int .u32 a0_2, .int .u64 a0_3, .int .u32 a0_4, .int .u32 a0_5, .int .u64 a0_6, .int .u32 a0_7, .int .u32 a0_8] 39 (0, 0)) (by (with_reducible repeat (first | refine blk_drewN ?_ _ | refine blk_drew ?_ | refine blk_alloc ?_ _)); exact BK106.out) hb)
              have n1_ := Aside0.mk (blk_below (g := gb107) (o := .cells #[.int .u64 0, .int .u32 0, .int .u32 0] 25 (0, 0)) (by (with_reducible repeat (first | refine blk_drewN ?_ _ | refine blk_drew ?_ | refine blk_alloc ?_ _)); exact BK107.out) hb)
              have n2_ := Aside0.mk (below_step (by repeat (first | (with_reducible first | exact HB.out | apply below_alloc | apply pw_below_drewN | apply below_drew1 | refine below_set ?_ GE106.out | refine below_set ?_ GE107.out) | exact HB.out)) hb)
              have n3_ := Aside0.mk (hbox)
              have n4_ := Aside0.mk ((by rw [hg]; exact (below_size (by repeat (first | (with_reducible first | exact HB.out | apply below_alloc | apply pw_below_drewN | apply below_drew1 | refine below_set ?_ GE106.out | refine below_set ?_ GE107.out) | exact HB.out))) : w.heap.size ≤ gb108))
              have n5_ := Aside0.mk ((by rw [hg]; exact (below_size (by repeat (first | (with_reducible first | exact HB.out | apply below_alloc | apply pw_below_drewN | apply below_drew1 | refine below_set ?_ GE106.out | refine below_set ?_ GE107.out) | exact HB.out))) : w.heap.size ≤ gb108))
              have n6_ := Aside0.mk ((by rw [hg]; exact Nat.ne_of_lt (blk_lt (g := gb106) (o := .cells #[.int .u64 a0_0, .int .u32 a0_1, .int .u32 a0_2, .int .u64 a0_3, .int .u32 a0_4, .int .u32 a0_5, .int .u64 a0_6, .int .u32 a0_7, .int .u32 a0_8] 39 (0, 0)) (by (with_reducible repeat (first | refine blk_drewN ?_ _ | refine blk_drew ?_ | refine blk_alloc ?_ _)); exact BK106.out)) : gb106 ≠ gb108))
              have n7_ := Aside0.mk ((by rw [hg]; exact Nat.ne_of_gt (blk_lt (g := gb106) (o := .cells #[.int .u64 a0_0, .int .u32 a0_1, .int .u32 a0_2, .int .u64 a0_3, .int .u32 a0_4, .int .u32 a0_5, .int .u64 a0_6, .int .u32 a0_7, .int .u32 a0_8] 39 (0, 0)) (by (with_reducible repeat (first | refine blk_drewN ?_ _ | refine blk_drew ?_ | refine blk_alloc ?_ _)); exact BK106.out)) : gb108 ≠ gb106))
              have n8_ := Aside0.mk ((by rw [hg]; exact Nat.ne_of_lt (blk_lt (g := gb107) (o := .cells #[.int .u64 0, .int .u32 0, .int .u32 0] 25 (0, 0)) (by (with_reducible repeat (first | refine blk_drewN ?_ _ | refine blk_drew ?_ | refine blk_alloc ?_ _)); exact BK107.out)) : gb107 ≠ gb108))
              have n9_ := Aside0.mk ((by rw [hg]; exact Nat.ne_of_gt (blk_lt (g := gb107) (o := .cells #[.int .u64 0, .int .u32 0, .int .u32 0] 25 (0, 0)) (by (with_reducible repeat (first | refine blk_drewN ?_ _ | refine blk_drew ?_ | refine blk_alloc ?_ _)); exact BK107.out)) : gb108 ≠ gb107))
              clear BK106
              clear BK107
              clear HB
              have BK106 := n0_
              have BK107 := n1_
              have HB := n2_
              have BK108 := n3_
              have GW108 := n4_
              have GE108 := n5_
              have NB106_108 := n6_
              have NB108_106 := n7_
              have NB107_108 := n8_
              have NB108_107 := n9_
              clear n0_ n1_ n2_ n3_ n4_ n5_ n6_ n7_ n8_ n9_
              clear hb hbox hg
              refine hK.out _ _ ⟨(blk_cell BK106.out 0).trans rfl, (blk_cell BK106.out 1).trans rfl, (blk_cell BK106.out 2).trans rfl, (blk_cell BK106.out 3).trans rfl, (blk_cell BK106.out 4).trans rfl, (blk_cell BK106.out 5).trans rfl, (blk_cell BK106.out 6).trans rfl, (blk_cell BK106.out 7).trans rfl, (blk_cell BK106.out 8).trans rfl⟩ (fun hHeld => ?_)
              clear hK K
              refine norm_ (a' := ?_) ?_ ?_
              rotate_left
              · show Act.put _ (some 4) _ = _
                simp only [Act.put, List.setIfInBounds_toArray, List.set_cons_zero, List.set_cons_succ, i64_w, i32_w]
                rfl
              exact norm_ (by first | (simp only [putAll, Act.put, List.setIfInBounds_toArray, List.set_cons_zero, List.set_cons_succ]; done) | (simp only [putAll, Act.put, List.setIfInBounds_toArray, List.set_cons_zero, List.set_cons_succ]; rfl)) (hJ6_7 (gb107, gb108) _ ⟨hHeld, (by (with_reducible repeat (first | refine blk_drewN ?_ _ | refine blk_drew ?_ | refine blk_alloc ?_ _)); exact BK106.out), (by (with_reducible repeat (first | refine blk_drewN ?_ _ | refine blk_drew ?_ | refine blk_alloc ?_ _)); exact BK107.out), (by (with_reducible repeat (first | refine blk_drewN ?_ _ | refine blk_drew ?_ | refine blk_alloc ?_ _)); exact BK108.out), GW107.out, GE107.out, NB106_107.out, NB107_106.out, NB108_107.out, NB107_108.out, GW108.out, GE108.out, NB106_108.out, NB108_106.out, (by repeat (first | (with_reducible first | exact HB.out | apply below_alloc | apply pw_below_drewN | apply below_drew1 | refine below_set ?_ GE106.out | refine below_set ?_ GE107.out | refine below_set ?_ GE108.out) | exact HB.out))⟩)
            · skip
              refine box_step ?hg (N := 5) ?hd (cs := #[.int .u64 0, .int .u32 0, .int .u32 0]) (t := 25) ?hr ?_; (case hd => rfl); (case hg => rfl); (case hr => first | (go_simp; done) | (go_simp; rfl))
              intro gb109 hg w7 hbox hb
              have n0_ := Aside0.mk (blk_below (g := gb106) (o := .cells #[.int .u64 a0_0, .int .u32 a0_1, .int .u32 a0_2, .int .u64 a0_3, .int .u32 a0_4, .int .u32 a0_5, .int .u64 a0_6, .int .u32 a0_7, .int .u32 a0_8] 39 (0, 0)) (by (with_reducible repeat (first | refine blk_drewN ?_ _ | refine blk_drew ?_ | refine blk_alloc ?_ _)); exact BK106.out) hb)
              have n1_ := Aside0.mk (blk_below (g := gb107) (o := .cells #[.int .u64 0, .int .u32 0, .int .u32 0] 25 (0, 0)) (by (with_reducible repeat (first | refine blk_drewN ?_ _ | refine blk_drew ?_ | refine blk_alloc ?_ _)); exact BK107.out) hb)
              have n2_ := Aside0.mk (below_step (by repeat (first | (with_reducible first | exact HB.out | apply below_alloc | apply pw_below_drewN | apply below_drew1 | refine below_set ?_ GE106.out | refine below_set ?_ GE107.out) | exact HB.out)) hb)
              have n3_ := Aside0.mk (hbox)
              have n4_ := Aside0.mk ((by rw [hg]; exact (below_size (by repeat (first | (with_reducible first | exact HB.out | apply below_alloc | apply pw_below_drewN | apply below_drew1 | refine below_set ?_ GE106.out | refine below_set ?_ GE107.out) | exact HB.out))) : w.heap.size ≤ gb109))
              have n5_ := Aside0.mk ((by rw [hg]; exact (below_size (by repeat (first | (with_reducible first | exact HB.out | apply below_alloc | apply pw_below_drewN | apply below_drew1 | refine below_set ?_ GE106.out | refine below_set ?_ GE107.out) | exact HB.out))) : w.heap.size ≤ gb109))
              have n6_ := Aside0.mk ((by rw [hg]; exact Nat.ne_of_lt (blk_lt (g := gb106) (o := .cells #[.int .u64 a0_0, .int .u32 a0_1, .int .u32 a0_2, .int .u64 a0_3, .int .u32 a0_4, .int .u32 a0_5, .int .u64 a0_6, .int .u32 a0_7, .int .u32 a0_8] 39 (0, 0)) (by (with_reducible repeat (first | refine blk_drewN ?_ _ | refine blk_drew ?_ | refine blk_alloc ?_ _)); exact BK106.out)) : gb106 ≠ gb109))
              have n7_ := Aside0.mk ((by rw [hg]; exact Nat.ne_of_gt (blk_lt (g := gb106) (o := .cells #[.int .u64 a0_0, .int .u32 a0_1, .int .u32 a0_2, .int .u64 a0_3, .int .u32 a0_4, .int .u32 a0_5, .int .u64 a0_6, .int .u32 a0_7, .int .u32 a0_8] 39 (0, 0)) (by (with_reducible repeat (first | refine blk_drewN ?_ _ | refine blk_drew ?_ | refine blk_alloc ?_ _)); exact BK106.out)) : gb109 ≠ gb106))
              have n8_ := Aside0.mk ((by rw [hg]; exact Nat.ne_of_lt (blk_lt (g := gb107) (o := .cells #[.int .u64 0, .int .u32 0, .int .u32 0] 25 (0, 0)) (by (with_reducible repeat (first | refine blk_drewN ?_ _ | refine blk_drew ?_ | refine blk_alloc ?_ _)); exact BK107.out)) : gb107 ≠ gb109))
              have n9_ := Aside0.mk ((by rw [hg]; exact Nat.ne_of_gt (blk_lt (g := gb107) (o := .cells #[.int .u64 0, .int .u32 0, .int .u32 0] 25 (0, 0)) (by (with_reducible repeat (first | refine blk_drewN ?_ _ | refine blk_drew ?_ | refine blk_alloc ?_ _)); exact BK107.out)) : gb109 ≠ gb107))
              clear BK106
              clear BK107
              clear HB
              have BK106 := n0_
              have BK107 := n1_
              have HB := n2_
              have BK109 := n3_
              have GW109 := n4_
              have GE109 := n5_
              have NB106_109 := n6_
              have NB109_106 := n7_
              have NB107_109 := n8_
              have NB109_107 := n9_
              clear n0_ n1_ n2_ n3_ n4_ n5_ n6_ n7_ n8_ n9_
              clear hb hbox hg
              refine hK.out _ _ ⟨(blk_cell BK106.out 0).trans rfl, (blk_cell BK106.out 1).trans rfl, (blk_cell BK106.out 2).trans rfl, (blk_cell BK106.out 3).trans rfl, (blk_cell BK106.out 4).trans rfl, (blk_cell BK106.out 5).trans rfl, (blk_cell BK106.out 6).trans rfl, (blk_cell BK106.out 7).trans rfl, (blk_cell BK106.out 8).trans rfl⟩ (fun hHeld => ?_)
              clear hK K
              refine norm_ (a' := ?_) ?_ ?_
              rotate_left
              · show Act.put _ (some 5) _ = _
                simp only [Act.put, List.setIfInBounds_toArray, List.set_cons_zero, List.set_cons_succ, i64_w, i32_w]
                rfl
              exact norm_ (by first | (simp only [putAll, Act.put, List.setIfInBounds_toArray, List.set_cons_zero, List.set_cons_succ]; done) | (simp only [putAll, Act.put, List.setIfInBounds_toArray, List.set_cons_zero, List.set_cons_succ]; rfl)) (hJ6_8 (gb107, gb109) _ ⟨hHeld, (by (with_reducible repeat (first | refine blk_drewN ?_ _ | refine blk_drew ?_ | refine blk_alloc ?_ _)); exact BK106.out), (by (with_reducible repeat (first | refine blk_drewN ?_ _ | refine blk_drew ?_ | refine blk_alloc ?_ _)); exact BK107.out), (by (with_reducible repeat (first | refine blk_drewN ?_ _ | refine blk_drew ?_ | refine blk_alloc ?_ _)); exact BK109.out), GW107.out, GE107.out, NB106_107.out, NB107_106.out, NB109_107.out, NB107_109.out, GW109.out, GE109.out, NB106_109.out, NB109_106.out, (by repeat (first | (with_reducible first | exact HB.out | apply below_alloc | apply pw_below_drewN | apply below_drew1 | refine below_set ?_ GE106.out | refine below_set ?_ GE107.out | refine below_set ?_ GE109.out) | exact HB.out))⟩)
        · skip
          rintro ⟨gb108, gb109⟩ w7 ⟨hS_, h0_, h1_, h2_, h3_, h4_, h5_, h6_, h7_, h8_, h9_, h10_, h11_, h12_, h13_⟩
          have n0_ : Aside0 (w7.heap[gb106]? = some (.cells #[.int .u64 a0_0, .int .u32 a0_1, .int .u32 a0_2, .int .u64 a0_3, .int .u32 a0_4, .int .u32 a0_5, .int .u64 a0_6, .int .u32 a0_7, .int .u32 a0_8] 39 (0, 0))) := ⟨h0_⟩
          have n1_ : Aside0 (w7.heap[gb108]? = some (.cells #[.int .u64 0, .int .u32 0, .int .u32 0] 25 (0, 0))) := ⟨h1_⟩
          have n2_ : Aside0 (w7.heap[gb109]? = some (.cells #[.int .u64 0, .int .u32 0, .int .u32 0] 25 (0, 0))) := ⟨h2_⟩
          have n3_ : Aside0 (w.heap.size ≤ gb108) := ⟨h3_⟩
          have n4_ : Aside0 (w.heap.size ≤ gb108) := ⟨h4_⟩
          have n5_ : Aside0 (gb106 ≠ gb108) := ⟨h5_⟩
          have n6_ : Aside0 (gb108 ≠ gb106) := ⟨h6_⟩
          have n7_ : Aside0 (gb109 ≠ gb108) := ⟨h7_⟩
          have n8_ : Aside0 (gb108 ≠ gb109) := ⟨h8_⟩
          have n9_ : Aside0 (w.heap.size ≤ gb109) := ⟨h9_⟩
          have n10_ : Aside0 (w.heap.size ≤ gb109) := ⟨h10_⟩
          have n11_ : Aside0 (gb106 ≠ gb109) := ⟨h11_⟩
          have n12_ : Aside0 (gb109 ≠ gb106) := ⟨h12_⟩
          have n13_ : Aside0 (Below w.heap.size w w7) := ⟨h13_⟩
          clear BK106
          clear HB
          clear h0_ h1_ h2_ h3_ h4_ h5_ h6_ h7_ h8_ h9_ h10_ h11_ h12_ h13_
          have BK106 := n0_
          have BK108 := n1_
          have BK109 := n2_
          have GW108 := n3_
          have GE108 := n4_
          have NB106_108 := n5_
          have NB108_106 := n6_
          have NB109_108 := n7_
          have NB108_109 := n8_
          have GW109 := n9_
          have GE109 := n10_
          have NB106_109 := n11_
          have NB109_106 := n12_
          have HB := n13_
          clear n0_ n1_ n2_ n3_ n4_ n5_ n6_ n7_ n8_ n9_ n10_ n11_ n12_ n13_
          have hHeld : w7.cell? ⟨gb106, 0, none⟩ = some (.int .u64 a0_0) ∧ w7.cell? ⟨gb106, 1, none⟩ = some (.int .u32 a0_1) ∧ w7.cell? ⟨gb106, 2, none⟩ = some (.int .u32 a0_2) ∧ w7.cell? ⟨gb106, 3, none⟩ = some (.int .u64 a0_3) ∧ w7.cell? ⟨gb106, 4, none⟩ = some (.int .u32 a0_4) ∧ w7.cell? ⟨gb106, 5, none⟩ = some (.int .u32 a0_5) ∧ w7.cell? ⟨gb106, 6, none⟩ = some (.int .u64 a0_6) ∧ w7.cell? ⟨gb106, 7, none⟩ = some (.int .u32 a0_7) ∧ w7.cell? ⟨gb106, 8, none⟩ = some (.int .u32 a0_8) := hS_
          refine norm_ (a' := ?_) ?_ ?_
          rotate_left
          · simp only [putAll, Act.put, List.setIfInBounds_toArray, List.set_cons_zero, List.set_cons_succ]
            rfl
          refine one_ (i := 6) (N := some 3) #[true, true, true, true, true, true, true, true, true, false, false, false] rfl rfl (one_of HT_.out (by kernel_rfl)) (by decide) (fun K hK => ?_)
          refine box_step ?hg (N := 3) ?hd (cs := #[.int .u64 0, .int .u32 0, .int .u32 0]) (t := 25) ?hr ?_; (case hd => rfl); (case hg => rfl); (case hr => first | (go_simp; done) | (go_simp; rfl))
          intro gb107 hg w8 hbox hb
          have n0_ := Aside0.mk (blk_below (g := gb106) (o := .cells #[.int .u64 a0_0, .int .u32 a0_1, .int .u32 a0_2, .int .u64 a0_3, .int .u32 a0_4, .int .u32 a0_5, .int .u64 a0_6, .int .u32 a0_7, .int .u32 a0_8] 39 (0, 0)) (by (with_reducible repeat (first | refine blk_drewN ?_ _ | refine blk_drew ?_ | refine blk_alloc ?_ _)); exact BK106.out) hb)
          have n1_ := Aside0.mk (blk_below (g := gb108) (o := .cells #[.int .u64 0, .int .u32 0, .int .u32 0] 25 (0, 0)) (by (with_reducible repeat (first | refine blk_drewN ?_ _ | refine blk_drew ?_ | refine blk_alloc ?_ _)); exact BK108.out) hb)
          have n2_ := Aside0.mk (blk_below (g := gb109) (o := .cells #[.int .u64 0, .int .u32 0, .int .u32 0] 25 (0, 0)) (by (with_reducible repeat (first | refine blk_drewN ?_ _ | refine blk_drew ?_ | refine blk_alloc ?_ _)); exact BK109.out) hb)
          have n3_ := Aside0.mk (below_step (by repeat (first | (with_reducible first | exact HB.out | apply below_alloc | apply pw_below_drewN | apply below_drew1 | refine below_set ?_ GE106.out | refine below_set ?_ GE108.out | refine below_set ?_ GE109.out) | exact HB.out)) hb)
          have n4_ := Aside0.mk (hbox)
          have n5_ := Aside0.mk ((by rw [hg]; exact (below_size (by repeat (first | (with_reducible first | exact HB.out | apply below_alloc | apply pw_below_drewN | apply below_drew1 | refine below_set ?_ GE106.out | refine below_set ?_ GE108.out | refine below_set ?_ GE109.out) | exact HB.out))) : w.heap.size ≤ gb107))
          have n6_ := Aside0.mk ((by rw [hg]; exact (below_size (by repeat (first | (with_reducible first | exact HB.out | apply below_alloc | apply pw_below_drewN | apply below_drew1 | refine below_set ?_ GE106.out | refine below_set ?_ GE108.out | refine below_set ?_ GE109.out) | exact HB.out))) : w.heap.size ≤ gb107))
          have n7_ := Aside0.mk ((by rw [hg]; exact Nat.ne_of_lt (blk_lt (g := gb106) (o := .cells #[.int .u64 a0_0, .int .u32 a0_1, .int .u32 a0_2, .int .u64 a0_3, .int .u32 a0_4, .int .u32 a0_5, .int .u64 a0_6, .int .u32 a0_7, .int .u32 a0_8] 39 (0, 0)) (by (with_reducible repeat (first | refine blk_drewN ?_ _ | refine blk_drew ?_ | refine blk_alloc ?_ _)); exact BK106.out)) : gb106 ≠ gb107))
          have n8_ := Aside0.mk ((by rw [hg]; exact Nat.ne_of_gt (blk_lt (g := gb106) (o := .cells #[.int .u64 a0_0, .int .u32 a0_1, .int .u32 a0_2, .int .u64 a0_3, .int .u32 a0_4, .int .u32 a0_5, .int .u64 a0_6, .int .u32 a0_7, .int .u32 a0_8] 39 (0, 0)) (by (with_reducible repeat (first | refine blk_drewN ?_ _ | refine blk_drew ?_ | refine blk_alloc ?_ _)); exact BK106.out)) : gb107 ≠ gb106))
          have n9_ := Aside0.mk ((by rw [hg]; exact Nat.ne_of_lt (blk_lt (g := gb108) (o := .cells #[.int .u64 0, .int .u32 0, .int .u32 0] 25 (0, 0)) (by (with_reducible repeat (first | refine blk_drewN ?_ _ | refine blk_drew ?_ | refine blk_alloc ?_ _)); exact BK108.out)) : gb108 ≠ gb107))
          have n10_ := Aside0.mk ((by rw [hg]; exact Nat.ne_of_gt (blk_lt (g := gb108) (o := .cells #[.int .u64 0, .int .u32 0, .int .u32 0] 25 (0, 0)) (by (with_reducible repeat (first | refine blk_drewN ?_ _ | refine blk_drew ?_ | refine blk_alloc ?_ _)); exact BK108.out)) : gb107 ≠ gb108))
          have n11_ := Aside0.mk ((by rw [hg]; exact Nat.ne_of_lt (blk_lt (g := gb109) (o := .cells #[.int .u64 0, .int .u32 0, .int .u32 0] 25 (0, 0)) (by (with_reducible repeat (first | refine blk_drewN ?_ _ | refine blk_drew ?_ | refine blk_alloc ?_ _)); exact BK109.out)) : gb109 ≠ gb107))
          have n12_ := Aside0.mk ((by rw [hg]; exact Nat.ne_of_gt (blk_lt (g := gb109) (o := .cells #[.int .u64 0, .int .u32 0, .int .u32 0] 25 (0, 0)) (by (with_reducible repeat (first | refine blk_drewN ?_ _ | refine blk_drew ?_ | refine blk_alloc ?_ _)); exact BK109.out)) : gb107 ≠ gb109))
          clear BK106
          clear BK108
          clear BK109
          clear HB
          have BK106 := n0_
          have BK108 := n1_
          have BK109 := n2_
          have HB := n3_
          have BK107 := n4_
          have GW107 := n5_
          have GE107 := n6_
          have NB106_107 := n7_
          have NB107_106 := n8_
          have NB108_107 := n9_
          have NB107_108 := n10_
          have NB109_107 := n11_
          have NB107_109 := n12_
          clear n0_ n1_ n2_ n3_ n4_ n5_ n6_ n7_ n8_ n9_ n10_ n11_ n12_
          clear hb hbox hg
          refine hK.out _ _ ⟨(blk_cell BK106.out 0).trans rfl, (blk_cell BK106.out 1).trans rfl, (blk_cell BK106.out 2).trans rfl, (blk_cell BK106.out 3).trans rfl, (blk_cell BK106.out 4).trans rfl, (blk_cell BK106.out 5).trans rfl, (blk_cell BK106.out 6).trans rfl, (blk_cell BK106.out 7).trans rfl, (blk_cell BK106.out 8).trans rfl⟩ (fun hHeld => ?_)
          clear hK K
          refine norm_ (a' := ?_) ?_ ?_
          rotate_left
          · show Act.put _ (some 3) _ = _
            simp only [Act.put, List.setIfInBounds_toArray, List.set_cons_zero, List.set_cons_succ, i64_w, i32_w]
            rfl
          exact norm_ (by first | (simp only [putAll, Act.put, List.setIfInBounds_toArray, List.set_cons_zero, List.set_cons_succ]; done) | (simp only [putAll, Act.put, List.setIfInBounds_toArray, List.set_cons_zero, List.set_cons_succ]; rfl)) (hJ6_7_8 (gb107, gb108, gb109) _ ⟨hHeld, (by (with_reducible repeat (first | refine blk_drewN ?_ _ | refine blk_drew ?_ | refine blk_alloc ?_ _)); exact BK106.out), (by (with_reducible repeat (first | refine blk_drewN ?_ _ | refine blk_drew ?_ | refine blk_alloc ?_ _)); exact BK107.out), (by (with_reducible repeat (first | refine blk_drewN ?_ _ | refine blk_drew ?_ | refine blk_alloc ?_ _)); exact BK108.out), (by (with_reducible repeat (first | refine blk_drewN ?_ _ | refine blk_drew ?_ | refine blk_alloc ?_ _)); exact BK109.out), GW107.out, GE107.out, NB106_107.out, NB107_106.out, NB108_107.out, NB107_108.out, NB109_107.out, NB107_109.out, GW108.out, GE108.out, NB106_108.out, NB108_106.out, NB109_108.out, NB108_109.out, GW109.out, GE109.out, NB106_109.out, NB109_106.out, (by repeat (first | (with_reducible first | exact HB.out | apply below_alloc | apply pw_below_drewN | apply below_drew1 | refine below_set ?_ GE106.out | refine below_set ?_ GE108.out | refine below_set ?_ GE109.out | refine below_set ?_ GE107.out) | exact HB.out))⟩)
      · skip
        rintro ⟨gb107, gb109⟩ w7 ⟨hS_, h0_, h1_, h2_, h3_, h4_, h5_, h6_, h7_, h8_, h9_, h10_, h11_, h12_, h13_⟩
        have n0_ : Aside0 (w7.heap[gb106]? = some (.cells #[.int .u64 a0_0, .int .u32 a0_1, .int .u32 a0_2, .int .u64 a0_3, .int .u32 a0_4, .int .u32 a0_5, .int .u64 a0_6, .int .u32 a0_7, .int .u32 a0_8] 39 (0, 0))) := ⟨h0_⟩
        have n1_ : Aside0 (w7.heap[gb107]? = some (.cells #[.int .u64 0, .int .u32 0, .int .u32 0] 25 (0, 0))) := ⟨h1_⟩
        have n2_ : Aside0 (w7.heap[gb109]? = some (.cells #[.int .u64 0, .int .u32 0, .int .u32 0] 25 (0, 0))) := ⟨h2_⟩
        have n3_ : Aside0 (w.heap.size ≤ gb107) := ⟨h3_⟩
        have n4_ : Aside0 (w.heap.size ≤ gb107) := ⟨h4_⟩
        have n5_ : Aside0 (gb106 ≠ gb107) := ⟨h5_⟩
        have n6_ : Aside0 (gb107 ≠ gb106) := ⟨h6_⟩
        have n7_ : Aside0 (gb109 ≠ gb107) := ⟨h7_⟩
        have n8_ : Aside0 (gb107 ≠ gb109) := ⟨h8_⟩
        have n9_ : Aside0 (w.heap.size ≤ gb109) := ⟨h9_⟩
        have n10_ : Aside0 (w.heap.size ≤ gb109) := ⟨h10_⟩
        have n11_ : Aside0 (gb106 ≠ gb109) := ⟨h11_⟩
        have n12_ : Aside0 (gb109 ≠ gb106) := ⟨h12_⟩
        have n13_ : Aside0 (Below w.heap.size w w7) := ⟨h13_⟩
        clear BK106
        clear HB
        clear h0_ h1_ h2_ h3_ h4_ h5_ h6_ h7_ h8_ h9_ h10_ h11_ h12_ h13_
        have BK106 := n0_
        have BK107 := n1_
        have BK109 := n2_
        have GW107 := n3_
        have GE107 := n4_
        have NB106_107 := n5_
        have NB107_106 := n6_
        have NB109_107 := n7_
        have NB107_109 := n8_
        have GW109 := n9_
        have GE109 := n10_
        have NB106_109 := n11_
        have NB109_106 := n12_
        have HB := n13_
        clear n0_ n1_ n2_ n3_ n4_ n5_ n6_ n7_ n8_ n9_ n10_ n11_ n12_ n13_
        have hHeld : w7.cell? ⟨gb106, 0, none⟩ = some (.int .u64 a0_0) ∧ w7.cell? ⟨gb106, 1, none⟩ = some (.int .u32 a0_1) ∧ w7.cell? ⟨gb106, 2, none⟩ = some (.int .u32 a0_2) ∧ w7.cell? ⟨gb106, 3, none⟩ = some (.int .u64 a0_3) ∧ w7.cell? ⟨gb106, 4, none⟩ = some (.int .u32 a0_4) ∧ w7.cell? ⟨gb106, 5, none⟩ = some (.int .u32 a0_5) ∧ w7.cell? ⟨gb106, 6, none⟩ = some (.int .u64 a0_6) ∧ w7.cell? ⟨gb106, 7, none⟩ = some (.int .u32 a0_7) ∧ w7.cell? ⟨gb106, 8, none⟩ = some (.int .u32 a0_8) := hS_
        refine norm_ (a' := ?_) ?_ ?_
        rotate_left
        · simp only [putAll, Act.put, List.setIfInBounds_toArray, List.set_cons_zero, List.set_cons_succ]
          rfl
        refine one_ (i := 7) (N := some 4) #[true, true, true, true, true, true, true, true, true, false, false, false] rfl rfl (one_of HT_.out (by kernel_rfl)) (by decide) (fun K hK => ?_)
        refine box_step ?hg (N := 4) ?hd (cs := #[.int .u64 0, .int .u32 0, .int .u32 0]) (t := 25) ?hr ?_; (case hd => rfl); (case hg => rfl); (case hr => first | (go_simp; done) | (go_simp; rfl))
        intro gb108 hg w8 hbox hb
        have n0_ := Aside0.mk (blk_below (g := gb106) (o := .cells #[.int .u64 a0_0, .int .u32 a0_1, .int .u32 a0_2, .int .u64 a0_3, .int .u32 a0_4, .int .u32 a0_5, .int .u64 a0_6, .int .u32 a0_7, .int .u32 a0_8] 39 (0, 0)) (by (with_reducible repeat (first | refine blk_drewN ?_ _ | refine blk_drew ?_ | refine blk_alloc ?_ _)); exact BK106.out) hb)
        have n1_ := Aside0.mk (blk_below (g := gb107) (o := .cells #[.int .u64 0, .int .u32 0, .int .u32 0] 25 (0, 0)) (by (with_reducible repeat (first | refine blk_drewN ?_ _ | refine blk_drew ?_ | refine blk_alloc ?_ _)); exact BK107.out) hb)
        have n2_ := Aside0.mk (blk_below (g := gb109) (o := .cells #[.int .u64 0, .int .u32 0, .int .u32 0] 25 (0, 0)) (by (with_reducible repeat (first | refine blk_drewN ?_ _ | refine blk_drew ?_ | refine blk_alloc ?_ _)); exact BK109.out) hb)
        have n3_ := Aside0.mk (below_step (by repeat (first | (with_reducible first | exact HB.out | apply below_alloc | apply pw_below_drewN | apply below_drew1 | refine below_set ?_ GE106.out | refine below_set ?_ GE107.out | refine below_set ?_ GE109.out) | exact HB.out)) hb)
        have n4_ := Aside0.mk (hbox)
        have n5_ := Aside0.mk ((by rw [hg]; exact (below_size (by repeat (first | (with_reducible first | exact HB.out | apply below_alloc | apply pw_below_drewN | apply below_drew1 | refine below_set ?_ GE106.out | refine below_set ?_ GE107.out | refine below_set ?_ GE109.out) | exact HB.out))) : w.heap.size ≤ gb108))
        have n6_ := Aside0.mk ((by rw [hg]; exact (below_size (by repeat (first | (with_reducible first | exact HB.out | apply below_alloc | apply pw_below_drewN | apply below_drew1 | refine below_set ?_ GE106.out | refine below_set ?_ GE107.out | refine below_set ?_ GE109.out) | exact HB.out))) : w.heap.size ≤ gb108))
        have n7_ := Aside0.mk ((by rw [hg]; exact Nat.ne_of_lt (blk_lt (g := gb106) (o := .cells #[.int .u64 a0_0, .int .u32 a0_1, .int .u32 a0_2, .int .u64 a0_3, .int .u32 a0_4, .int .u32 a0_5, .int .u64 a0_6, .int .u32 a0_7, .int .u32 a0_8] 39 (0, 0)) (by (with_reducible repeat (first | refine blk_drewN ?_ _ | refine blk_drew ?_ | refine blk_alloc ?_ _)); exact BK106.out)) : gb106 ≠ gb108))
        have n8_ := Aside0.mk ((by rw [hg]; exact Nat.ne_of_gt (blk_lt (g := gb106) (o := .cells #[.int .u64 a0_0, .int .u32 a0_1, .int .u32 a0_2, .int .u64 a0_3, .int .u32 a0_4, .int .u32 a0_5, .int .u64 a0_6, .int .u32 a0_7, .int .u32 a0_8] 39 (0, 0)) (by (with_reducible repeat (first | refine blk_drewN ?_ _ | refine blk_drew ?_ | refine blk_alloc ?_ _)); exact BK106.out)) : gb108 ≠ gb106))
        have n9_ := Aside0.mk ((by rw [hg]; exact Nat.ne_of_lt (blk_lt (g := gb107) (o := .cells #[.int .u64 0, .int .u32 0, .int .u32 0] 25 (0, 0)) (by (with_reducible repeat (first | refine blk_drewN ?_ _ | refine blk_drew ?_ | refine blk_alloc ?_ _)); exact BK107.out)) : gb107 ≠ gb108))
        have n10_ := Aside0.mk ((by rw [hg]; exact Nat.ne_of_gt (blk_lt (g := gb107) (o := .cells #[.int .u64 0, .int .u32 0, .int .u32 0] 25 (0, 0)) (by (with_reducible repeat (first | refine blk_drewN ?_ _ | refine blk_drew ?_ | refine blk_alloc ?_ _)); exact BK107.out)) : gb108 ≠ gb107))
        have n11_ := Aside0.mk ((by rw [hg]; exact Nat.ne_of_lt (blk_lt (g := gb109) (o := .cells #[.int .u64 0, .int .u32 0, .int .u32 0] 25 (0, 0)) (by (with_reducible repeat (first | refine blk_drewN ?_ _ | refine blk_drew ?_ | refine blk_alloc ?_ _)); exact BK109.out)) : gb109 ≠ gb108))
        have n12_ := Aside0.mk ((by rw [hg]; exact Nat.ne_of_gt (blk_lt (g := gb109) (o := .cells #[.int .u64 0, .int .u32 0, .int .u32 0] 25 (0, 0)) (by (with_reducible repeat (first | refine blk_drewN ?_ _ | refine blk_drew ?_ | refine blk_alloc ?_ _)); exact BK109.out)) : gb108 ≠ gb109))
        clear BK106
        clear BK107
        clear BK109
        clear HB
        have BK106 := n0_
        have BK107 := n1_
        have BK109 := n2_
        have HB := n3_
        have BK108 := n4_
        have GW108 := n5_
        have GE108 := n6_
        have NB106_108 := n7_
        have NB108_106 := n8_
        have NB107_108 := n9_
        have NB108_107 := n10_
        have NB109_108 := n11_
        have NB108_109 := n12_
        clear n0_ n1_ n2_ n3_ n4_ n5_ n6_ n7_ n8_ n9_ n10_ n11_ n12_
        clear hb hbox hg
        refine hK.out _ _ ⟨(blk_cell BK106.out 0).trans rfl, (blk_cell BK106.out 1).trans rfl, (blk_cell BK106.out 2).trans rfl, (blk_cell BK106.out 3).trans rfl, (blk_cell BK106.out 4).trans rfl, (blk_cell BK106.out 5).trans rfl, (blk_cell BK106.out 6).trans rfl, (blk_cell BK106.out 7).trans rfl, (blk_cell BK106.out 8).trans rfl⟩ (fun hHeld => ?_)
        clear hK K
        refine norm_ (a' := ?_) ?_ ?_
        rotate_left
        · show Act.put _ (some 4) _ = _
          simp only [Act.put, List.setIfInBounds_toArray, List.set_cons_zero, List.set_cons_succ, i64_w, i32_w]
          rfl
        exact norm_ (by first | (simp only [putAll, Act.put, List.setIfInBounds_toArray, List.set_cons_zero, List.set_cons_succ]; done) | (simp only [putAll, Act.put, List.setIfInBounds_toArray, List.set_cons_zero, List.set_cons_succ]; rfl)) (hJ6_7_8 (gb107, gb108, gb109) _ ⟨hHeld, (by (with_reducible repeat (first | refine blk_drewN ?_ _ | refine blk_drew ?_ | refine blk_alloc ?_ _)); exact BK106.out), (by (with_reducible repeat (first | refine blk_drewN ?_ _ | refine blk_drew ?_ | refine blk_alloc ?_ _)); exact BK107.out), (by (with_reducible repeat (first | refine blk_drewN ?_ _ | refine blk_drew ?_ | refine blk_alloc ?_ _)); exact BK108.out), (by (with_reducible repeat (first | refine blk_drewN ?_ _ | refine blk_drew ?_ | refine blk_alloc ?_ _)); exact BK109.out), GW107.out, GE107.out, NB106_107.out, NB107_106.out, NB108_107.out, NB107_108.out, NB109_107.out, NB107_109.out, GW108.out, GE108.out, NB106_108.out, NB108_106.out, NB109_108.out, NB108_109.out, GW109.out, GE109.out, NB106_109.out, NB109_106.out, (by repeat (first | (with_reducible first | exact HB.out | apply below_alloc | apply pw_below_drewN | apply below_drew1 | refine below_set ?_ GE106.out | refine below_set ?_ GE107.out | refine below_set ?_ GE109.out | refine below_set ?_ GE108.out) | exact HB.out))⟩)
    · skip
      rintro ⟨gb107, gb108⟩ w7 ⟨hS_, h0_, h1_, h2_, h3_, h4_, h5_, h6_, h7_, h8_, h9_, h10_, h11_, h12_, h13_⟩
      have n0_ : Aside0 (w7.heap[gb106]? = some (.cells #[.int .u64 a0_0, .int .u32 a0_1, .int .u32 a0_2, .int .u64 a0_3, .int .u32 a0_4, .int .u32 a0_5, .int .u64 a0_6, .int .u32 a0_7, .int .u32 a0_8] 39 (0, 0))) := ⟨h0_⟩
      have n1_ : Aside0 (w7.heap[gb107]? = some (.cells #[.int .u64 0, .int .u32 0, .int .u32 0] 25 (0, 0))) := ⟨h1_⟩
      have n2_ : Aside0 (w7.heap[gb108]? = some (.cells #[.int .u64 0, .int .u32 0, .int .u32 0] 25 (0, 0))) := ⟨h2_⟩
      have n3_ : Aside0 (w.heap.size ≤ gb107) := ⟨h3_⟩
      have n4_ : Aside0 (w.heap.size ≤ gb107) := ⟨h4_⟩
      have n5_ : Aside0 (gb106 ≠ gb107) := ⟨h5_⟩
      have n6_ : Aside0 (gb107 ≠ gb106) := ⟨h6_⟩
      have n7_ : Aside0 (gb108 ≠ gb107) := ⟨h7_⟩
      have n8_ : Aside0 (gb107 ≠ gb108) := ⟨h8_⟩
      have n9_ : Aside0 (w.heap.size ≤ gb108) := ⟨h9_⟩
      have n10_ : Aside0 (w.heap.size ≤ gb108) := ⟨h10_⟩
      have n11_ : Aside0 (gb106 ≠ gb108) := ⟨h11_⟩
      have n12_ : Aside0 (gb108 ≠ gb106) := ⟨h12_⟩
      have n13_ : Aside0 (Below w.heap.size w w7) := ⟨h13_⟩
      clear BK106
      clear HB
      clear h0_ h1_ h2_ h3_ h4_ h5_ h6_ h7_ h8_ h9_ h10_ h11_ h12_ h13_
      have BK106 := n0_
      have BK107 := n1_
      have BK108 := n2_
      have GW107 := n3_
      have GE107 := n4_
      have NB106_107 := n5_
      have NB107_106 := n6_
      have NB108_107 := n7_
      have NB107_108 := n8_
      have GW108 := n9_
      have GE108 := n10_
      have NB106_108 := n11_
      have NB108_106 := n12_
      have HB := n13_
      clear n0_ n1_ n2_ n3_ n4_ n5_ n6_ n7_ n8_ n9_ n10_ n11_ n12_ n13_
      have hHeld : w7.cell? ⟨gb106, 0, none⟩ = some (.int .u64 a0_0) ∧ w7.cell? ⟨gb106, 1, none⟩ = some (.int .u32 a0_1) ∧ w7.cell? ⟨gb106, 2, none⟩ = some (.int .u32 a0_2) ∧ w7.cell? ⟨gb106, 3, none⟩ = some (.int .u64 a0_3) ∧ w7.cell? ⟨gb106, 4, none⟩ = some (.int .u32 a0_4) ∧ w7.cell? ⟨gb106, 5, none⟩ = some (.int .u32 a0_5) ∧ w7.cell? ⟨gb106, 6, none⟩ = some (.int .u64 a0_6) ∧ w7.cell? ⟨gb106, 7, none⟩ = some (.int .u32 a0_7) ∧ w7.cell? ⟨gb106, 8, none⟩ = some (.int .u32 a0_8) := hS_
      refine norm_ (a' := ?_) ?_ ?_
      rotate_left
      · simp only [putAll, Act.put, List.setIfInBounds_toArray, List.set_cons_zero, List.set_cons_succ]
        rfl
      refine one_ (i := 8) (N := some 5) #[true, true, true, true, true, true, true, true, true, false, false, false] rfl rfl (one_of HT_.out (by kernel_rfl)) (by decide) (fun K hK => ?_)
      refine box_step ?hg (N := 5) ?hd (cs := #[.int .u64 0, .int .u32 0, .int .u32 0]) (t := 25) ?hr ?_; (case hd => rfl); (case hg => rfl); (case hr => first | (go_simp; done) | (go_simp; rfl))
      intro gb109 hg w8 hbox hb
      have n0_ := Aside0.mk (blk_below (g := gb106) (o := .cells #[.int .u64 a0_0, .int .u32 a0_1, .int .u32 a0_2, .int .u64 a0_3, .int .u32 a0_4, .int .u32 a0_5, .int .u64 a0_6, .int .u32 a0_7, .int .u32 a0_8] 39 (0, 0)) (by (with_reducible repeat (first | refine blk_drewN ?_ _ | refine blk_drew ?_ | refine blk_alloc ?_ _)); exact BK106.out) hb)
      have n1_ := Aside0.mk (blk_below (g := gb107) (o := .cells #[.int .u64 0, .int .u32 0, .int .u32 0] 25 (0, 0)) (by (with_reducible repeat (first | refine blk_drewN ?_ _ | refine blk_drew ?_ | refine blk_alloc ?_ _)); exact BK107.out) hb)
      have n2_ := Aside0.mk (blk_below (g := gb108) (o := .cells #[.int .u64 0, .int .u32 0, .int .u32 0] 25 (0, 0)) (by (with_reducible repeat (first | refine blk_drewN ?_ _ | refine blk_drew ?_ | refine blk_alloc ?_ _)); exact BK108.out) hb)
      have n3_ := Aside0.mk (below_step (by repeat (first | (with_reducible first | exact HB.out | apply below_alloc | apply pw_below_drewN | apply below_drew1 | refine below_set ?_ GE106.out | refine below_set ?_ GE107.out | refine below_set ?_ GE108.out) | exact HB.out)) hb)
      have n4_ := Aside0.mk (hbox)
      have n5_ := Aside0.mk ((by rw [hg]; exact (below_size (by repeat (first | (with_reducible first | exact HB.out | apply below_alloc | apply pw_below_drewN | apply below_drew1 | refine below_set ?_ GE106.out | refine below_set ?_ GE107.out | refine below_set ?_ GE108.out) | exact HB.out))) : w.heap.size ≤ gb109))
      have n6_ := Aside0.mk ((by rw [hg]; exact (below_size (by repeat (first | (with_reducible first | exact HB.out | apply below_alloc | apply pw_below_drewN | apply below_drew1 | refine below_set ?_ GE106.out | refine below_set ?_ GE107.out | refine below_set ?_ GE108.out) | exact HB.out))) : w.heap.size ≤ gb109))
      have n7_ := Aside0.mk ((by rw [hg]; exact Nat.ne_of_lt (blk_lt (g := gb106) (o := .cells #[.int .u64 a0_0, .int .u32 a0_1, .int .u32 a0_2, .int .u64 a0_3, .int .u32 a0_4, .int .u32 a0_5, .int .u64 a0_6, .int .u32 a0_7, .int .u32 a0_8] 39 (0, 0)) (by (with_reducible repeat (first | refine blk_drewN ?_ _ | refine blk_drew ?_ | refine blk_alloc ?_ _)); exact BK106.out)) : gb106 ≠ gb109))
      have n8_ := Aside0.mk ((by rw [hg]; exact Nat.ne_of_gt (blk_lt (g := gb106) (o := .cells #[.int .u64 a0_0, .int .u32 a0_1, .int .u32 a0_2, .int .u64 a0_3, .int .u32 a0_4, .int .u32 a0_5, .int .u64 a0_6, .int .u32 a0_7, .int .u32 a0_8] 39 (0, 0)) (by (with_reducible repeat (first | refine blk_drewN ?_ _ | refine blk_drew ?_ | refine blk_alloc ?_ _)); exact BK106.out)) : gb109 ≠ gb106))
      have n9_ := Aside0.mk ((by rw [hg]; exact Nat.ne_of_lt (blk_lt (g := gb107) (o := .cells #[.int .u64 0, .int .u32 0, .int .u32 0] 25 (0, 0)) (by (with_reducible repeat (first | refine blk_drewN ?_ _ | refine blk_drew ?_ | refine blk_alloc ?_ _)); exact BK107.out)) : gb107 ≠ gb109))
      have n10_ := Aside0.mk ((by rw [hg]; exact Nat.ne_of_gt (blk_lt (g := gb107) (o := .cells #[.int .u64 0, .int .u32 0, .int .u32 0] 25 (0, 0)) (by (with_reducible repeat (first | refine blk_drewN ?_ _ | refine blk_drew ?_ | refine blk_alloc ?_ _)); exact BK107.out)) : gb109 ≠ gb107))
      have n11_ := Aside0.mk ((by rw [hg]; exact Nat.ne_of_lt (blk_lt (g := gb108) (o := .cells #[.int .u64 0, .int .u32 0, .int .u32 0] 25 (0, 0)) (by (with_reducible repeat (first | refine blk_drewN ?_ _ | refine blk_drew ?_ | refine blk_alloc ?_ _)); exact BK108.out)) : gb108 ≠ gb109))
      have n12_ := Aside0.mk ((by rw [hg]; exact Nat.ne_of_gt (blk_lt (g := gb108) (o := .cells #[.int .u64 0, .int .u32 0, .int .u32 0] 25 (0, 0)) (by (with_reducible repeat (first | refine blk_drewN ?_ _ | refine blk_drew ?_ | refine blk_alloc ?_ _)); exact BK108.out)) : gb109 ≠ gb108))
      clear BK106
      clear BK107
      clear BK108
      clear HB
      have BK106 := n0_
      have BK107 := n1_
      have BK108 := n2_
      have HB := n3_
      have BK109 := n4_
      have GW109 := n5_
      have GE109 := n6_
      have NB106_109 := n7_
      have NB109_106 := n8_
      have NB107_109 := n9_
      have NB109_107 := n10_
      have NB108_109 := n11_
      have NB109_108 := n12_
      clear n0_ n1_ n2_ n3_ n4_ n5_ n6_ n7_ n8_ n9_ n10_ n11_ n12_
      clear hb hbox hg
      refine hK.out _ _ ⟨(blk_cell BK106.out 0).trans rfl, (blk_cell BK106.out 1).trans rfl, (blk_cell BK106.out 2).trans rfl, (blk_cell BK106.out 3).trans rfl, (blk_cell BK106.out 4).trans rfl, (blk_cell BK106.out 5).trans rfl, (blk_cell BK106.out 6).trans rfl, (blk_cell BK106.out 7).trans rfl, (blk_cell BK106.out 8).trans rfl⟩ (fun hHeld => ?_)
      clear hK K
      refine norm_ (a' := ?_) ?_ ?_
      rotate_left
      · show Act.put _ (some 5) _ = _
        simp only [Act.put, List.setIfInBounds_toArray, List.set_cons_zero, List.set_cons_succ, i64_w, i32_w]
        rfl
      exact norm_ (by first | (simp only [putAll, Act.put, List.setIfInBounds_toArray, List.set_cons_zero, List.set_cons_succ]; done) | (simp only [putAll, Act.put, List.setIfInBounds_toArray, List.set_cons_zero, List.set_cons_succ]; rfl)) (hJ6_7_8 (gb107, gb108, gb109) _ ⟨hHeld, (by (with_reducible repeat (first | refine blk_drewN ?_ _ | refine blk_drew ?_ | refine blk_alloc ?_ _)); exact BK106.out), (by (with_reducible repeat (first | refine blk_drewN ?_ _ | refine blk_drew ?_ | refine blk_alloc ?_ _)); exact BK107.out), (by (with_reducible repeat (first | refine blk_drewN ?_ _ | refine blk_drew ?_ | refine blk_alloc ?_ _)); exact BK108.out), (by (with_reducible repeat (first | refine blk_drewN ?_ _ | refine blk_drew ?_ | refine blk_alloc ?_ _)); exact BK109.out), GW107.out, GE107.out, NB106_107.out, NB107_106.out, NB108_107.out, NB107_108.out, NB109_107.out, NB107_109.out, GW108.out, GE108.out, NB106_108.out, NB108_106.out, NB109_108.out, NB108_109.out, GW109.out, GE109.out, NB106_109.out, NB109_106.out, (by repeat (first | (with_reducible first | exact HB.out | apply below_alloc | apply pw_below_drewN | apply below_drew1 | refine below_set ?_ GE106.out | refine below_set ?_ GE107.out | refine below_set ?_ GE108.out | refine below_set ?_ GE109.out) | exact HB.out))⟩)
  rintro ⟨gb107, gb108, gb109⟩ w8 ⟨hS_, h0_, h1_, h2_, h3_, h4_, h5_, h6_, h7_, h8_, h9_, h10_, h11_, h12_, h13_, h14_, h15_, h16_, h17_, h18_, h19_, h20_, h21_, h22_⟩
  have n0_ : Aside0 (w8.heap[gb106]? = some (.cells #[.int .u64 a0_0, .int .u32 a0_1, .int .u32 a0_2, .int .u64 a0_3, .int .u32 a0_4, .int .u32 a0_5, .int .u64 a0_6, .int .u32 a0_7, .int .u32 a0_8] 39 (0, 0))) := ⟨h0_⟩
  have n1_ : Aside0 (w8.heap[gb107]? = some (.cells #[.int .u64 0, .int .u32 0, .int .u32 0] 25 (0, 0))) := ⟨h1_⟩
  have n2_ : Aside0 (w8.heap[gb108]? = some (.cells #[.int .u64 0, .int .u32 0, .int .u32 0] 25 (0, 0))) := ⟨h2_⟩
  have n3_ : Aside0 (w8.heap[gb109]? = some (.cells #[.int .u64 0, .int .u32 0, .int .u32 0] 25 (0, 0))) := ⟨h3_⟩
  have n4_ : Aside0 (w.heap.size ≤ gb107) := ⟨h4_⟩
  have n5_ : Aside0 (w.heap.size ≤ gb107) := ⟨h5_⟩
  have n6_ : Aside0 (gb106 ≠ gb107) := ⟨h6_⟩
  have n7_ : Aside0 (gb107 ≠ gb106) := ⟨h7_⟩
  have n8_ : Aside0 (gb108 ≠ gb107) := ⟨h8_⟩
  have n9_ : Aside0 (gb107 ≠ gb108) := ⟨h9_⟩
  have n10_ : Aside0 (gb109 ≠ gb107) := ⟨h10_⟩
  have n11_ : Aside0 (gb107 ≠ gb109) := ⟨h11_⟩
  have n12_ : Aside0 (w.heap.size ≤ gb108) := ⟨h12_⟩
  have n13_ : Aside0 (w.heap.size ≤ gb108) := ⟨h13_⟩
  have n14_ : Aside0 (gb106 ≠ gb108) := ⟨h14_⟩
  have n15_ : Aside0 (gb108 ≠ gb106) := ⟨h15_⟩
  have n16_ : Aside0 (gb109 ≠ gb108) := ⟨h16_⟩
  have n17_ : Aside0 (gb108 ≠ gb109) := ⟨h17_⟩
  have n18_ : Aside0 (w.heap.size ≤ gb109) := ⟨h18_⟩
  have n19_ : Aside0 (w.heap.size ≤ gb109) := ⟨h19_⟩
  have n20_ : Aside0 (gb106 ≠ gb109) := ⟨h20_⟩
  have n21_ : Aside0 (gb109 ≠ gb106) := ⟨h21_⟩
  have n22_ : Aside0 (Below w.heap.size w w8) := ⟨h22_⟩
  clear BK106
  clear HB
  clear h0_ h1_ h2_ h3_ h4_ h5_ h6_ h7_ h8_ h9_ h10_ h11_ h12_ h13_ h14_ h15_ h16_ h17_ h18_ h19_ h20_ h21_ h22_
  have BK106 := n0_
  have BK107 := n1_
  have BK108 := n2_
  have BK109 := n3_
  have GW107 := n4_
  have GE107 := n5_
  have NB106_107 := n6_
  have NB107_106 := n7_
  have NB108_107 := n8_
  have NB107_108 := n9_
  have NB109_107 := n10_
  have NB107_109 := n11_
  have GW108 := n12_
  have GE108 := n13_
  have NB106_108 := n14_
  have NB108_106 := n15_
  have NB109_108 := n16_
  have NB108_109 := n17_
  have GW109 := n18_
  have GE109 := n19_
  have NB106_109 := n20_
  have NB109_106 := n21_
  have HB := n22_
  clear n0_ n1_ n2_ n3_ n4_ n5_ n6_ n7_ n8_ n9_ n10_ n11_ n12_ n13_ n14_ n15_ n16_ n17_ n18_ n19_ n20_ n21_ n22_
  have hHeld : w8.cell? ⟨gb106, 0, none⟩ = some (.int .u64 a0_0) ∧ w8.cell? ⟨gb106, 1, none⟩ = some (.int .u32 a0_1) ∧ w8.cell? ⟨gb106, 2, none⟩ = some (.int .u32 a0_2) ∧ w8.cell? ⟨gb106, 3, none⟩ = some (.int .u64 a0_3) ∧ w8.cell? ⟨gb106, 4, none⟩ = some (.int .u32 a0_4) ∧ w8.cell? ⟨gb106, 5, none⟩ = some (.int .u32 a0_5) ∧ w8.cell? ⟨gb106, 6, none⟩ = some (.int .u64 a0_6) ∧ w8.cell? ⟨gb106, 7, none⟩ = some (.int .u32 a0_7) ∧ w8.cell? ⟨gb106, 8, none⟩ = some (.int .u32 a0_8) := hS_
  refine norm_ (a' := ?_) ?_ ?_
  rotate_left
  · simp only [putAll, Act.put, List.setIfInBounds_toArray, List.set_cons_zero, List.set_cons_succ]
    rfl
  refine one_ (i := 9) (N := none) #[true, true, true, true, true, true, true, true, true, true, false, false] rfl rfl (one_of HT_.out (by kernel_rfl)) (by decide) (fun K hK => ?_)
  have hs9 : w8.cell? ⟨gb107, 0, none⟩ = some (.int .u64 0) := (blk_cell BK107.out 0).trans rfl
  have hfs9 := blk_frozen BK107.out 0
  have hns9_0 := NB106_107.out
  have hns9_2 := NB108_107.out
  have hns9_3 := NB109_107.out
  have hms9_0 := NB107_106.out
  have hms9_2 := NB107_108.out
  have hms9_3 := NB107_109.out
  have hs10 : w8.cell? ⟨gb107, 1, none⟩ = some (.int .u32 0) := (blk_cell BK107.out 1).trans rfl
  have hfs10 := blk_frozen BK107.out 1
  have hns10_0 := NB106_107.out
  have hns10_2 := NB108_107.out
  have hns10_3 := NB109_107.out
  have hms10_0 := NB107_106.out
  have hms10_2 := NB107_108.out
  have hms10_3 := NB107_109.out
  have hs11 : w8.cell? ⟨gb107, 2, none⟩ = some (.int .u32 0) := (blk_cell BK107.out 2).trans rfl
  have hfs11 := blk_frozen BK107.out 2
  have hns11_0 := NB106_107.out
  have hns11_2 := NB108_107.out
  have hns11_3 := NB109_107.out
  have hms11_0 := NB107_106.out
  have hms11_2 := NB107_108.out
  have hms11_3 := NB107_109.out
  refine skip_ (w1 := ?_) (by rfl) rfl ?_ ?_
  rotate_left
  · go_simp
    rfl
  refine hK.out _ _ ⟨((cell_far (p := ⟨gb107, _, none⟩) NB106_107.out _).trans (((cell_far (p := ⟨gb107, _, none⟩) NB106_107.out _).trans (((cell_far (p := ⟨gb107, _, none⟩) NB106_107.out _).trans (hHeld.1)))))), ((cell_far (p := ⟨gb107, _, none⟩) NB106_107.out _).trans (((cell_far (p := ⟨gb107, _, none⟩) NB106_107.out _).trans (((cell_far (p := ⟨gb107, _, none⟩) NB106_107.out _).trans (hHeld.2.1)))))), ((cell_far (p := ⟨gb107, _, none⟩) NB106_107.out _).trans (((cell_far (p := ⟨gb107, _, none⟩) NB106_107.out _).trans (((cell_far (p := ⟨gb107, _, none⟩) NB106_107.out _).trans (hHeld.2.2.1)))))), ((cell_far (p := ⟨gb107, _, none⟩) NB106_107.out _).trans (((cell_far (p := ⟨gb107, _, none⟩) NB106_107.out _).trans (((cell_far (p := ⟨gb107, _, none⟩) NB106_107.out _).trans (hHeld.2.2.2.1)))))), ((cell_far (p := ⟨gb107, _, none⟩) NB106_107.out _).trans (((cell_far (p := ⟨gb107, _, none⟩) NB106_107.out _).trans (((cell_far (p := ⟨gb107, _, none⟩) NB106_107.out _).trans (hHeld.2.2.2.2.1)))))), ((cell_far (p := ⟨gb107, _, none⟩) NB106_107.out _).trans (((cell_far (p := ⟨gb107, _, none⟩) NB106_107.out _).trans (((cell_far (p := ⟨gb107, _, none⟩) NB106_107.out _).trans (hHeld.2.2.2.2.2.1)))))), ((cell_far (p := ⟨gb107, _, none⟩) NB106_107.out _).trans (((cell_far (p := ⟨gb107, _, none⟩) NB106_107.out _).trans (((cell_far (p := ⟨gb107, _, none⟩) NB106_107.out _).trans (hHeld.2.2.2.2.2.2.1)))))), ((cell_far (p := ⟨gb107, _, none⟩) NB106_107.out _).trans (((cell_far (p := ⟨gb107, _, none⟩) NB106_107.out _).trans (((cell_far (p := ⟨gb107, _, none⟩) NB106_107.out _).trans (hHeld.2.2.2.2.2.2.2.1)))))), ((cell_far (p := ⟨gb107, _, none⟩) NB106_107.out _).trans (((cell_far (p := ⟨gb107, _, none⟩) NB106_107.out _).trans (((cell_far (p := ⟨gb107, _, none⟩) NB106_107.out _).trans (hHeld.2.2.2.2.2.2.2.2))))))⟩ (fun hHeld => ?_)
  clear hK K
  refine one_ (i := 10) (N := none) #[true, true, true, true, true, true, true, true, true, true, true, false] rfl rfl (one_of HT_.out (by kernel_rfl)) (by decide) (fun K hK => ?_)
  have hs12 : w8.cell? ⟨gb108, 0, none⟩ = some (.int .u64 0) := (blk_cell BK108.out 0).trans rfl
  have hfs12 := blk_frozen BK108.out 0
  have hns12_0 := NB106_108.out
  have hns12_1 := NB107_108.out
  have hns12_3 := NB109_108.out
  have hms12_0 := NB108_106.out
  have hms12_1 := NB108_107.out
  have hms12_3 := NB108_109.out
  have hs13 : w8.cell? ⟨gb108, 1, none⟩ = some (.int .u32 0) := (blk_cell BK108.out 1).trans rfl
  have hfs13 := blk_frozen BK108.out 1
  have hns13_0 := NB106_108.out
  have hns13_1 := NB107_108.out
  have hns13_3 := NB109_108.out
  have hms13_0 := NB108_106.out
  have hms13_1 := NB108_107.out
  have hms13_3 := NB108_109.out
  have hs14 : w8.cell? ⟨gb108, 2, none⟩ = some (.int .u32 0) := (blk_cell BK108.out 2).trans rfl
  have hfs14 := blk_frozen BK108.out 2
  have hns14_0 := NB106_108.out
  have hns14_1 := NB107_108.out
  have hns14_3 := NB109_108.out
  have hms14_0 := NB108_106.out
  have hms14_1 := NB108_107.out
  have hms14_3 := NB108_109.out
  refine skip_ (w1 := ?_) (by rfl) rfl ?_ ?_
  rotate_left
  · go_simp
    rfl
  refine hK.out _ _ ⟨((cell_far (p := ⟨gb108, _, none⟩) NB106_108.out _).trans (((cell_far (p := ⟨gb108, _, none⟩) NB106_108.out _).trans (((cell_far (p := ⟨gb108, _, none⟩) NB106_108.out _).trans (hHeld.1)))))), ((cell_far (p := ⟨gb108, _, none⟩) NB106_108.out _).trans (((cell_far (p := ⟨gb108, _, none⟩) NB106_108.out _).trans (((cell_far (p := ⟨gb108, _, none⟩) NB106_108.out _).trans (hHeld.2.1)))))), ((cell_far (p := ⟨gb108, _, none⟩) NB106_108.out _).trans (((cell_far (p := ⟨gb108, _, none⟩) NB106_108.out _).trans (((cell_far (p := ⟨gb108, _, none⟩) NB106_108.out _).trans (hHeld.2.2.1)))))), ((cell_far (p := ⟨gb108, _, none⟩) NB106_108.out _).trans (((cell_far (p := ⟨gb108, _, none⟩) NB106_108.out _).trans (((cell_far (p := ⟨gb108, _, none⟩) NB106_108.out _).trans (hHeld.2.2.2.1)))))), ((cell_far (p := ⟨gb108, _, none⟩) NB106_108.out _).trans (((cell_far (p := ⟨gb108, _, none⟩) NB106_108.out _).trans (((cell_far (p := ⟨gb108, _, none⟩) NB106_108.out _).trans (hHeld.2.2.2.2.1)))))), ((cell_far (p := ⟨gb108, _, none⟩) NB106_108.out _).trans (((cell_far (p := ⟨gb108, _, none⟩) NB106_108.out _).trans (((cell_far (p := ⟨gb108, _, none⟩) NB106_108.out _).trans (hHeld.2.2.2.2.2.1)))))), ((cell_far (p := ⟨gb108, _, none⟩) NB106_108.out _).trans (((cell_far (p := ⟨gb108, _, none⟩) NB106_108.out _).trans (((cell_far (p := ⟨gb108, _, none⟩) NB106_108.out _).trans (hHeld.2.2.2.2.2.2.1)))))), ((cell_far (p := ⟨gb108, _, none⟩) NB106_108.out _).trans (((cell_far (p := ⟨gb108, _, none⟩) NB106_108.out _).trans (((cell_far (p := ⟨gb108, _, none⟩) NB106_108.out _).trans (hHeld.2.2.2.2.2.2.2.1)))))), ((cell_far (p := ⟨gb108, _, none⟩) NB106_108.out _).trans (((cell_far (p := ⟨gb108, _, none⟩) NB106_108.out _).trans (((cell_far (p := ⟨gb108, _, none⟩) NB106_108.out _).trans (hHeld.2.2.2.2.2.2.2.2))))))⟩ (fun hHeld => ?_)
  clear hK K
  refine one_ (i := 11) (N := none) #[true, true, true, true, true, true, true, true, true, true, true, true] rfl rfl (one_of HT_.out (by kernel_rfl)) (by decide) (fun K hK => ?_)
  have hs15 : w8.cell? ⟨gb109, 0, none⟩ = some (.int .u64 0) := (blk_cell BK109.out 0).trans rfl
  have hfs15 := blk_frozen BK109.out 0
  have hns15_0 := NB106_109.out
  have hns15_1 := NB107_109.out
  have hns15_2 := NB108_109.out
  have hms15_0 := NB109_106.out
  have hms15_1 := NB109_107.out
  have hms15_2 := NB109_108.out
  have hs16 : w8.cell? ⟨gb109, 1, none⟩ = some (.int .u32 0) := (blk_cell BK109.out 1).trans rfl
  have hfs16 := blk_frozen BK109.out 1
  have hns16_0 := NB106_109.out
  have hns16_1 := NB107_109.out
  have hns16_2 := NB108_109.out
  have hms16_0 := NB109_106.out
  have hms16_1 := NB109_107.out
  have hms16_2 := NB109_108.out
  have hs17 : w8.cell? ⟨gb109, 2, none⟩ = some (.int .u32 0) := (blk_cell BK109.out 2).trans rfl
  have hfs17 := blk_frozen BK109.out 2
  have hns17_0 := NB106_109.out
  have hns17_1 := NB107_109.out
  have hns17_2 := NB108_109.out
  have hms17_0 := NB109_106.out
  have hms17_1 := NB109_107.out
  have hms17_2 := NB109_108.out
  refine skip_ (w1 := ?_) (by rfl) rfl ?_ ?_
  rotate_left
  · go_simp
    rfl
  refine hK.out _ _ ⟨((cell_far (p := ⟨gb109, _, none⟩) NB106_109.out _).trans (((cell_far (p := ⟨gb109, _, none⟩) NB106_109.out _).trans (((cell_far (p := ⟨gb109, _, none⟩) NB106_109.out _).trans (hHeld.1)))))), ((cell_far (p := ⟨gb109, _, none⟩) NB106_109.out _).trans (((cell_far (p := ⟨gb109, _, none⟩) NB106_109.out _).trans (((cell_far (p := ⟨gb109, _, none⟩) NB106_109.out _).trans (hHeld.2.1)))))), ((cell_far (p := ⟨gb109, _, none⟩) NB106_109.out _).trans (((cell_far (p := ⟨gb109, _, none⟩) NB106_109.out _).trans (((cell_far (p := ⟨gb109, _, none⟩) NB106_109.out _).trans (hHeld.2.2.1)))))), ((cell_far (p := ⟨gb109, _, none⟩) NB106_109.out _).trans (((cell_far (p := ⟨gb109, _, none⟩) NB106_109.out _).trans (((cell_far (p := ⟨gb109, _, none⟩) NB106_109.out _).trans (hHeld.2.2.2.1)))))), ((cell_far (p := ⟨gb109, _, none⟩) NB106_109.out _).trans (((cell_far (p := ⟨gb109, _, none⟩) NB106_109.out _).trans (((cell_far (p := ⟨gb109, _, none⟩) NB106_109.out _).trans (hHeld.2.2.2.2.1)))))), ((cell_far (p := ⟨gb109, _, none⟩) NB106_109.out _).trans (((cell_far (p := ⟨gb109, _, none⟩) NB106_109.out _).trans (((cell_far (p := ⟨gb109, _, none⟩) NB106_109.out _).trans (hHeld.2.2.2.2.2.1)))))), ((cell_far (p := ⟨gb109, _, none⟩) NB106_109.out _).trans (((cell_far (p := ⟨gb109, _, none⟩) NB106_109.out _).trans (((cell_far (p := ⟨gb109, _, none⟩) NB106_109.out _).trans (hHeld.2.2.2.2.2.2.1)))))), ((cell_far (p := ⟨gb109, _, none⟩) NB106_109.out _).trans (((cell_far (p := ⟨gb109, _, none⟩) NB106_109.out _).trans (((cell_far (p := ⟨gb109, _, none⟩) NB106_109.out _).trans (hHeld.2.2.2.2.2.2.2.1)))))), ((cell_far (p := ⟨gb109, _, none⟩) NB106_109.out _).trans (((cell_far (p := ⟨gb109, _, none⟩) NB106_109.out _).trans (((cell_far (p := ⟨gb109, _, none⟩) NB106_109.out _).trans (hHeld.2.2.2.2.2.2.2.2))))))⟩ (fun hHeld => ?_)
  clear hK K
  refine done_ (done_of HT_.out (by kernel_rfl)) ?_
  go_upto_region 2 with (fail)
  go_cut [23] (fun v23 wc => ∃ (kq : Nat) (x23_1 : Bool), v23 = .bool x23_1 ∧ Aside0 (tidemarklaw1_StampTotal.j0 kq x23_1 a0_0 a0_1 a0_2 a0_3 a0_4 a0_5 a0_6 a0_7 a0_8 = some r) ∧ Aside0 (kq ≤ k) ∧ Aside0 (wc.heap[gb106]? = some (.cells #[.int .u64 a0_0, .int .u32 a0_1, .int .u32 a0_2, .int .u64 a0_3, .int .u32 a0_4, .int .u32 a0_5, .int .u64 a0_6, .int .u32 a0_7, .int .u32 a0_8] 39 (0, 0))) ∧ Aside0 (wc.heap[gb107]? = some (.cells #[.int .u64 a0_0, .int .u32 a0_1, .int .u32 a0_2] 25 (0, 0))) ∧ Aside0 (wc.heap[gb108]? = some (.cells #[.int .u64 a0_3, .int .u32 a0_4, .int .u32 a0_5] 25 (0, 0))) ∧ Aside0 (wc.heap[gb109]? = some (.cells #[.int .u64 a0_6, .int .u32 a0_7, .int .u32 a0_8] 25 (0, 0))) ∧ Aside0 (Below w.heap.size w wc))
  case first =>
    have H := HC2.out
    clear HC2
    by_cases c18 : (!(a0_0 == a0_3) || (!(a0_1 == a0_4) || (!(a0_2 == a0_5)))) = true
    · rw [if_pos c18] at H
      have c18b0 : (!(a0_0 == a0_3) || (!(a0_1 == a0_4) || (!(a0_2 == a0_5)))) = true := c18
      clear c18
      (first | rw [c18b0] | (simp only [i64_w, i32_w]; rw [c18b0]) | skip)
      replace H := Option.bind_eq_some_iff.mp H
      obtain ⟨t110, A190, H⟩ := H
      replace H : ((stamp_Less.f a0_3 a0_4 a0_5 a0_0 a0_1 a0_2).bind fun t111 => (tidemarklaw1_StampTotal.j0 k (t110 == t111) a0_0 a0_1 a0_2 a0_3 a0_4 a0_5 a0_6 a0_7 a0_8)) = some r := H
      have A19 := Aside0.mk A190
      clear A190
      replace H := Option.bind_eq_some_iff.mp H
      obtain ⟨t111, A200, H⟩ := H
      replace H : (tidemarklaw1_StampTotal.j0 k (t110 == t111) a0_0 a0_1 a0_2 a0_3 a0_4 a0_5 a0_6 a0_7 a0_8) = some r := H
      have A20 := Aside0.mk A200
      clear A200
      have H' := Aside0.mk H
      clear H
      try go_wp2
      have n0_ : Aside0 ((((((((((w8.setCell ⟨gb107, 0, none⟩ (.int .u64 a0_0)).setCell ⟨gb107, 1, none⟩ (.int .u32 a0_1)).setCell ⟨gb107, 2, none⟩ (.int .u32 a0_2)).setCell ⟨gb108, 0, none⟩ (.int .u64 a0_3)).setCell ⟨gb108, 1, none⟩ (.int .u32 a0_4)).setCell ⟨gb108, 2, none⟩ (.int .u32 a0_5)).setCell ⟨gb109, 0, none⟩ (.int .u64 a0_6)).setCell ⟨gb109, 1, none⟩ (.int .u32 a0_7)).setCell ⟨gb109, 2, none⟩ (.int .u32 a0_8)).heap[gb106]? = some (.cells #[.int .u64 a0_0, .int .u32 a0_1, .int .u32 a0_2, .int .u64 a0_3, .int .u32 a0_4, .int .u32 a0_5, .int .u64 a0_6, .int .u32 a0_7, .int .u32 a0_8] 39 (0, 0))) := ⟨by (with_reducible repeat (first | refine blk_drewN ?_ _ | refine blk_drew ?_ | refine blk_alloc ?_ _)); refine blk_far ?_ NB106_109.out _; (with_reducible repeat (first | refine blk_drewN ?_ _ | refine blk_drew ?_ | refine blk_alloc ?_ _)); refine blk_far ?_ NB106_109.out _; (with_reducible repeat (first | refine blk_drewN ?_ _ | refine blk_drew ?_ | refine blk_alloc ?_ _)); refine blk_far ?_ NB106_109.out _; (with_reducible repeat (first | refine blk_drewN ?_ _ | refine blk_drew ?_ | refine blk_alloc ?_ _)); refine blk_far ?_ NB106_108.out _; (with_reducible repeat (first | refine blk_drewN ?_ _ | refine blk_drew ?_ | refine blk_alloc ?_ _)); refine blk_far ?_ NB106_108.out _; (with_reducible repeat (first | refine blk_drewN ?_ _ | refine blk_drew ?_ | refine blk_alloc ?_ _)); refine blk_far ?_ NB106_108.out _; (with_reducible repeat (first | refine blk_drewN ?_ _ | refine blk_drew ?_ | refine blk_alloc ?_ _)); refine blk_far ?_ NB106_107.out _; (with_reducible repeat (first | refine blk_drewN ?_ _ | refine blk_drew ?_ | refine blk_alloc ?_ _)); refine blk_far ?_ NB106_107.out _; (with_reducible repeat (first | refine blk_drewN ?_ _ | refine blk_drew ?_ | refine blk_alloc ?_ _)); refine blk_far ?_ NB106_107.out _; (with_reducible repeat (first | refine blk_drewN ?_ _ | refine blk_drew ?_ | refine blk_alloc ?_ _)); exact BK106.out⟩
      have n1_ : Aside0 ((((((((((w8.setCell ⟨gb107, 0, none⟩ (.int .u64 a0_0)).setCell ⟨gb107, 1, none⟩ (.int .u32 a0_1)).setCell ⟨gb107, 2, none⟩ (.int .u32 a0_2)).setCell ⟨gb108, 0, none⟩ (.int .u64 a0_3)).setCell ⟨gb108, 1, none⟩ (.int .u32 a0_4)).setCell ⟨gb108, 2, none⟩ (.int .u32 a0_5)).setCell ⟨gb109, 0, none⟩ (.int .u64 a0_6)).setCell ⟨gb109, 1, none⟩ (.int .u32 a0_7)).setCell ⟨gb109, 2, none⟩ (.int .u32 a0_8)).heap[gb107]? = some (.cells #[.int .u64 a0_0, .int .u32 a0_1, .int .u32 a0_2] 25 (0, 0))) := ⟨by (with_reducible repeat (first | refine blk_drewN ?_ _ | refine blk_drew ?_ | refine blk_alloc ?_ _)); refine blk_far ?_ NB107_109.out _; (with_reducible repeat (first | refine blk_drewN ?_ _ | refine blk_drew ?_ | refine blk_alloc ?_ _)); refine blk_far ?_ NB107_109.out _; (with_reducible repeat (first | refine blk_drewN ?_ _ | refine blk_drew ?_ | refine blk_alloc ?_ _)); refine blk_far ?_ NB107_109.out _; (with_reducible repeat (first | refine blk_drewN ?_ _ | refine blk_drew ?_ | refine blk_alloc ?_ _)); refine blk_far ?_ NB107_108.out _; (with_reducible repeat (first | refine blk_drewN ?_ _ | refine blk_drew ?_ | refine blk_alloc ?_ _)); refine blk_far ?_ NB107_108.out _; (with_reducible repeat (first | refine blk_drewN ?_ _ | refine blk_drew ?_ | refine blk_alloc ?_ _)); refine blk_far ?_ NB107_108.out _; (with_reducible repeat (first | refine blk_drewN ?_ _ | refine blk_drew ?_ | refine blk_alloc ?_ _)); refine blk_put (cs := #[.int .u64 a0_0, .int .u32 a0_1, .int .u32 0]) ?_ 2 _ rfl; (with_reducible repeat (first | refine blk_drewN ?_ _ | refine blk_drew ?_ | refine blk_alloc ?_ _)); refine blk_put (cs := #[.int .u64 a0_0, .int .u32 0, .int .u32 0]) ?_ 1 _ rfl; (with_reducible repeat (first | refine blk_drewN ?_ _ | refine blk_drew ?_ | refine blk_alloc ?_ _)); refine blk_put (cs := #[.int .u64 0, .int .u32 0, .int .u32 0]) ?_ 0 _ rfl; (with_reducible repeat (first | refine blk_drewN ?_ _ | refine blk_drew ?_ | refine blk_alloc ?_ _)); exact BK107.out⟩
      have n2_ : Aside0 ((((((((((w8.setCell ⟨gb107, 0, none⟩ (.int .u64 a0_0)).setCell ⟨gb107, 1, none⟩ (.int .u32 a0_1)).setCell ⟨gb107, 2, none⟩ (.int .u32 a0_2)).setCell ⟨gb108, 0, none⟩ (.int .u64 a0_3)).setCell ⟨gb108, 1, none⟩ (.int .u32 a0_4)).setCell ⟨gb108, 2, none⟩ (.int .u32 a0_5)).setCell ⟨gb109, 0, none⟩ (.int .u64 a0_6)).setCell ⟨gb109, 1, none⟩ (.int .u32 a0_7)).setCell ⟨gb109, 2, none⟩ (.int .u32 a0_8)).heap[gb108]? = some (.cells #[.int .u64 a0_3, .int .u32 a0_4, .int .u32 a0_5] 25 (0, 0))) := ⟨by (with_reducible repeat (first | refine blk_drewN ?_ _ | refine blk_drew ?_ | refine blk_alloc ?_ _)); refine blk_far ?_ NB108_109.out _; (with_reducible repeat (first | refine blk_drewN ?_ _ | refine blk_drew ?_ | refine blk_alloc ?_ _)); refine blk_far ?_ NB108_109.out _; (with_reducible repeat (first | refine blk_drewN ?_ _ | refine blk_drew ?_ | refine blk_alloc ?_ _)); refine blk_far ?_ NB108_109.out _; (with_reducible repeat (first | refine blk_drewN ?_ _ | refine blk_drew ?_ | refine blk_alloc ?_ _)); refine blk_put (cs := #[.int .u64 a0_3, .int .u32 a0_4, .int .u32 0]) ?_ 2 _ rfl; (with_reducible repeat (first | refine blk_drewN ?_ _ | refine blk_drew ?_ | refine blk_alloc ?_ _)); refine blk_put (cs := #[.int .u64 a0_3, .int .u32 0, .int .u32 0]) ?_ 1 _ rfl; (with_reducible repeat (first | refine blk_drewN ?_ _ | refine blk_drew ?_ | refine blk_alloc ?_ _)); refine blk_put (cs := #[.int .u64 0, .int .u32 0, .int .u32 0]) ?_ 0 _ rfl; (with_reducible repeat (first | refine blk_drewN ?_ _ | refine blk_drew ?_ | refine blk_alloc ?_ _)); refine blk_far ?_ NB108_107.out _; (with_reducible repeat (first | refine blk_drewN ?_ _ | refine blk_drew ?_ | refine blk_alloc ?_ _)); refine blk_far ?_ NB108_107.out _; (with_reducible repeat (first | refine blk_drewN ?_ _ | refine blk_drew ?_ | refine blk_alloc ?_ _)); refine blk_far ?_ NB108_107.out _; (with_reducible repeat (first | refine blk_drewN ?_ _ | refine blk_drew ?_ | refine blk_alloc ?_ _)); exact BK108.out⟩
      have n3_ : Aside0 ((((((((((w8.setCell ⟨gb107, 0, none⟩ (.int .u64 a0_0)).setCell ⟨gb107, 1, none⟩ (.int .u32 a0_1)).setCell ⟨gb107, 2, none⟩ (.int .u32 a0_2)).setCell ⟨gb108, 0, none⟩ (.int .u64 a0_3)).setCell ⟨gb108, 1, none⟩ (.int .u32 a0_4)).setCell ⟨gb108, 2, none⟩ (.int .u32 a0_5)).setCell ⟨gb109, 0, none⟩ (.int .u64 a0_6)).setCell ⟨gb109, 1, none⟩ (.int .u32 a0_7)).setCell ⟨gb109, 2, none⟩ (.int .u32 a0_8)).heap[gb109]? = some (.cells #[.int .u64 a0_6, .int .u32 a0_7, .int .u32 a0_8] 25 (0, 0))) := ⟨by (with_reducible repeat (first | refine blk_drewN ?_ _ | refine blk_drew ?_ | refine blk_alloc ?_ _)); refine blk_put (cs := #[.int .u64 a0_6, .int .u32 a0_7, .int .u32 0]) ?_ 2 _ rfl; (with_reducible repeat (first | refine blk_drewN ?_ _ | refine blk_drew ?_ | refine blk_alloc ?_ _)); refine blk_put (cs := #[.int .u64 a0_6, .int .u32 0, .int .u32 0]) ?_ 1 _ rfl; (with_reducible repeat (first | refine blk_drewN ?_ _ | refine blk_drew ?_ | refine blk_alloc ?_ _)); refine blk_put (cs := #[.int .u64 0, .int .u32 0, .int .u32 0]) ?_ 0 _ rfl; (with_reducible repeat (first | refine blk_drewN ?_ _ | refine blk_drew ?_ | refine blk_alloc ?_ _)); refine blk_far ?_ NB109_108.out _; (with_reducible repeat (first | refine blk_drewN ?_ _ | refine blk_drew ?_ | refine blk_alloc ?_ _)); refine blk_far ?_ NB109_108.out _; (with_reducible repeat (first | refine blk_drewN ?_ _ | refine blk_drew ?_ | refine blk_alloc ?_ _)); refine blk_far ?_ NB109_108.out _; (with_reducible repeat (first | refine blk_drewN ?_ _ | refine blk_drew ?_ | refine blk_alloc ?_ _)); refine blk_far ?_ NB109_107.out _; (with_reducible repeat (first | refine blk_drewN ?_ _ | refine blk_drew ?_ | refine blk_alloc ?_ _)); refine blk_far ?_ NB109_107.out _; (with_reducible repeat (first | refine blk_drewN ?_ _ | refine blk_drew ?_ | refine blk_alloc ?_ _)); refine blk_far ?_ NB109_107.out _; (with_reducible repeat (first | refine blk_drewN ?_ _ | refine blk_drew ?_ | refine blk_alloc ?_ _)); exact BK109.out⟩
      have n4_ : Aside0 (Below w.heap.size w (((((((((w8.setCell ⟨gb107, 0, none⟩ (.int .u64 a0_0)).setCell ⟨gb107, 1, none⟩ (.int .u32 a0_1)).setCell ⟨gb107, 2, none⟩ (.int .u32 a0_2)).setCell ⟨gb108, 0, none⟩ (.int .u64 a0_3)).setCell ⟨gb108, 1, none⟩ (.int .u32 a0_4)).setCell ⟨gb108, 2, none⟩ (.int .u32 a0_5)).setCell ⟨gb109, 0, none⟩ (.int .u64 a0_6)).setCell ⟨gb109, 1, none⟩ (.int .u32 a0_7)).setCell ⟨gb109, 2, none⟩ (.int .u32 a0_8))) := ⟨by repeat (first | (with_reducible first | exact HB.out | apply below_alloc | apply pw_below_drewN | apply below_drew1 | refine below_set ?_ GE106.out | refine below_set ?_ GE107.out | refine below_set ?_ GE108.out | refine below_set ?_ GE109.out) | exact HB.out)⟩
      (try clear BK106)
      (try clear BK107)
      (try clear BK108)
      (try clear BK109)
      (try clear HB)
      generalize (((((((((w8.setCell ⟨gb107, 0, none⟩ (.int .u64 a0_0)).setCell ⟨gb107, 1, none⟩ (.int .u32 a0_1)).setCell ⟨gb107, 2, none⟩ (.int .u32 a0_2)).setCell ⟨gb108, 0, none⟩ (.int .u64 a0_3)).setCell ⟨gb108, 1, none⟩ (.int .u32 a0_4)).setCell ⟨gb108, 2, none⟩ (.int .u32 a0_5)).setCell ⟨gb109, 0, none⟩ (.int .u64 a0_6)).setCell ⟨gb109, 1, none⟩ (.int .u32 a0_7)).setCell ⟨gb109, 2, none⟩ (.int .u32 a0_8)) = w21 at n0_ n1_ n2_ n3_ n4_ ⊢
      have BK106 := n0_
      have BK107 := n1_
      have BK108 := n2_
      have BK109 := n3_
      have HB := n4_
      clear n0_ n1_ n2_ n3_ n4_
      have n0_ := Aside0.mk (blk_drew BK106.out)
      have n1_ := Aside0.mk (blk_drew BK107.out)
      have n2_ := Aside0.mk (blk_drew BK108.out)
      have n3_ := Aside0.mk (blk_drew BK109.out)
      have n4_ := Aside0.mk (below_drew1 HB.out)
      clear BK106
      clear BK107
      clear BK108
      clear BK109
      clear HB
      have BK106 := n0_
      have BK107 := n1_
      have BK108 := n2_
      have BK109 := n3_
      have HB := n4_
      clear n0_ n1_ n2_ n3_ n4_
      refine start_ (n := 12) (S := fun w' => w'.cell? ⟨gb107, 0, none⟩ = some (.int .u64 a0_0) ∧ w'.cell? ⟨gb107, 1, none⟩ = some (.int .u32 a0_1) ∧ w'.cell? ⟨gb107, 2, none⟩ = some (.int .u32 a0_2) ∧ w'.cell? ⟨gb108, 0, none⟩ = some (.int .u64 a0_3) ∧ w'.cell? ⟨gb108, 1, none⟩ = some (.int .u32 a0_4) ∧ w'.cell? ⟨gb108, 2, none⟩ = some (.int .u32 a0_5)) (ds := []) #[false, false, false, false, false, false, false, false, false, false, false, false] (by kernel_rfl) rfl rfl ⟨(blk_cell BK107.out 0).trans rfl, (blk_cell BK107.out 1).trans rfl, (blk_cell BK107.out 2).trans rfl, (blk_cell BK108.out 0).trans rfl, (blk_cell BK108.out 1).trans rfl, (blk_cell BK108.out 2).trans rfl⟩ (fun hHeld => ?_); refine with_tabW tidemarklaw1_StampTotal.tab2 tidemarklaw1_StampTotal.bits2 (fun HT_ HW_ => ?_)
      generalize w21.drew = w22 at BK106 BK107 BK108 BK109 HB hHeld ⊢
      refine take_ (i := 0) (N := some 12) (v := ?_) (a' := ?_) #[true, false, false, false, false, false, false, false, false, false, false, false] rfl rfl (take_ofW HT_.out HW_.out (by kernel_rfl)) (fun _ _ _ h => h) (Or.inl ⟨by rfl, ?_⟩) hHeld ?_ ?_
      rotate_left
      · rintro w' ⟨s0, s1, s2, s3, s4, s5⟩
        go_simp
        with_reducible rfl
      rotate_left
      · simp only [Act.put, List.setIfInBounds_toArray, List.set_cons_zero, List.set_cons_succ, i64_w, i32_w]
        rfl
      refine take_ (i := 1) (N := some 13) (v := ?_) (a' := ?_) #[true, true, false, false, false, false, false, false, false, false, false, false] rfl rfl (take_ofW HT_.out HW_.out (by kernel_rfl)) (fun _ _ _ h => h) (Or.inl ⟨by rfl, ?_⟩) hHeld ?_ ?_
      rotate_left
      · rintro w' ⟨s0, s1, s2, s3, s4, s5⟩
        go_simp
        with_reducible rfl
      rotate_left
      · simp only [Act.put, List.setIfInBounds_toArray, List.set_cons_zero, List.set_cons_succ, i64_w, i32_w]
        rfl
      refine pure_ (i := 2) (N := some 14) (v := ?_) (a' := ?_) #[true, true, true, false, false, false, false, false, false, false, false, false] rfl rfl (any_of HT_.out (by kernel_rfl)) (fun _ _ _ h => h) (Or.inl ⟨by rfl, ?_⟩) ?_ ?_
      rotate_left
      · intro w'
        go_simp
        with_reducible rfl
      rotate_left
      · simp only [Act.put, List.setIfInBounds_toArray, List.set_cons_zero, List.set_cons_succ, i64_w, i32_w]
        rfl
      refine pure_ (i := 3) (N := some 15) (v := ?_) (a' := ?_) #[true, true, true, true, false, false, false, false, false, false, false, false] rfl rfl (any_of HT_.out (by kernel_rfl)) (fun _ _ _ h => h) (Or.inl ⟨by rfl, ?_⟩) ?_ ?_
      rotate_left
      · intro w'
        go_simp
        with_reducible rfl
      rotate_left
      · simp only [Act.put, List.setIfInBounds_toArray, List.set_cons_zero, List.set_cons_succ, i64_w, i32_w]
        rfl
      refine take_ (i := 4) (N := some 16) (v := ?_) (a' := ?_) #[true, true, true, true, true, false, false, false, false, false, false, false] rfl rfl (take_ofW HT_.out HW_.out (by kernel_rfl)) (fun _ _ _ h => h) (Or.inl ⟨by rfl, ?_⟩) hHeld ?_ ?_
      rotate_left
      · rintro w' ⟨s0, s1, s2, s3, s4, s5⟩
        go_simp
        with_reducible rfl
      rotate_left
      · simp only [Act.put, List.setIfInBounds_toArray, List.set_cons_zero, List.set_cons_succ, i64_w, i32_w]
        rfl
      refine take_ (i := 5) (N := some 17) (v := ?_) (a' := ?_) #[true, true, true, true, true, true, false, false, false, false, false, false] rfl rfl (take_ofW HT_.out HW_.out (by kernel_rfl)) (fun _ _ _ h => h) (Or.inl ⟨by rfl, ?_⟩) hHeld ?_ ?_
      rotate_left
      · rintro w' ⟨s0, s1, s2, s3, s4, s5⟩
        go_simp
        with_reducible rfl
      rotate_left
      · simp only [Act.put, List.setIfInBounds_toArray, List.set_cons_zero, List.set_cons_succ, i64_w, i32_w]
        rfl
      refine take_ (i := 7) (N := some 19) (v := ?_) (a' := ?_) #[true, true, true, true, true, true, false, true, false, false, false, false] rfl rfl (take_ofW HT_.out HW_.out (by kernel_rfl)) (fun _ _ _ h => h) (Or.inl ⟨by rfl, ?_⟩) hHeld ?_ ?_
      rotate_left
      · rintro w' ⟨s0, s1, s2, s3, s4, s5⟩
        go_simp
        with_reducible rfl
      rotate_left
      · simp only [Act.put, List.setIfInBounds_toArray, List.set_cons_zero, List.set_cons_succ, i64_w, i32_w]
        rfl
      refine take_ (i := 8) (N := some 20) (v := ?_) (a' := ?_) #[true, true, true, true, true, true, false, true, true, false, false, false] rfl rfl (take_ofW HT_.out HW_.out (by kernel_rfl)) (fun _ _ _ h => h) (Or.inl ⟨by rfl, ?_⟩) hHeld ?_ ?_
      rotate_left
      · rintro w' ⟨s0, s1, s2, s3, s4, s5⟩
        go_simp
        with_reducible rfl
      rotate_left
      · simp only [Act.put, List.setIfInBounds_toArray, List.set_cons_zero, List.set_cons_succ, i64_w, i32_w]
        rfl
      refine one_ (i := 6) (N := some 18) #[true, true, true, true, true, true, true, true, true, false, false, false] rfl rfl (one_of HT_.out (by kernel_rfl)) (by decide) (fun K hK => ?_)
      refine goes_ Try.func16 (by kernel_rfl) rfl #[.agg #[.int .u64 a0_0, .int .u32 a0_1, .int .u32 a0_2], .agg #[.int .u64 a0_3, .int .u32 a0_4, .int .u32 a0_5]] (by rfl) rfl rfl (by (try simp only [List.map_toArray, List.map_cons, List.map_nil]); first | done | rfl | (simp only [List.length_drop, List.length_take]; rfl)) ?_
      with_reducible refine (stamp_Less.calls a0_0 a0_1 a0_2 a0_3 a0_4 a0_5 t110 _ A19.out).mono ?_
      rintro e w23 ⟨rfl, hb⟩
      refine ⟨_, rfl, ?_⟩
      have n0_ := Aside0.mk (blk_below (g := gb106) (o := .cells #[.int .u64 a0_0, .int .u32 a0_1, .int .u32 a0_2, .int .u64 a0_3, .int .u32 a0_4, .int .u32 a0_5, .int .u64 a0_6, .int .u32 a0_7, .int .u32 a0_8] 39 (0, 0)) (by (with_reducible repeat (first | refine blk_drewN ?_ _ | refine blk_drew ?_ | refine blk_alloc ?_ _)); exact BK106.out) hb)
      have n1_ := Aside0.mk (blk_below (g := gb107) (o := .cells #[.int .u64 a0_0, .int .u32 a0_1, .int .u32 a0_2] 25 (0, 0)) (by (with_reducible repeat (first | refine blk_drewN ?_ _ | refine blk_drew ?_ | refine blk_alloc ?_ _)); exact BK107.out) hb)
      have n2_ := Aside0.mk (blk_below (g := gb108) (o := .cells #[.int .u64 a0_3, .int .u32 a0_4, .int .u32 a0_5] 25 (0, 0)) (by (with_reducible repeat (first | refine blk_drewN ?_ _ | refine blk_drew ?_ | refine blk_alloc ?_ _)); exact BK108.out) hb)
      have n3_ := Aside0.mk (blk_below (g := gb109) (o := .cells #[.int .u64 a0_6, .int .u32 a0_7, .int .u32 a0_8] 25 (0, 0)) (by (with_reducible repeat (first | refine blk_drewN ?_ _ | refine blk_drew ?_ | refine blk_alloc ?_ _)); exact BK109.out) hb)
      have n4_ := Aside0.mk (below_step (by repeat (first | (with_reducible first | exact HB.out | apply below_alloc | apply pw_below_drewN | apply below_drew1 | refine below_set ?_ GE106.out | refine below_set ?_ GE107.out | refine below_set ?_ GE108.out | refine below_set ?_ GE109.out) | exact HB.out)) hb)
      clear BK106
      clear BK107
      clear BK108
      clear BK109
      clear HB
      have BK106 := n0_
      have BK107 := n1_
      have BK108 := n2_
      have BK109 := n3_
      have HB := n4_
      clear n0_ n1_ n2_ n3_ n4_
      (try clear hb)
      (try clear hb2)
      (try clear hk)
      (try clear hi)
      refine hK.out _ _ ⟨(blk_cell BK107.out 0).trans rfl, (blk_cell BK107.out 1).trans rfl, (blk_cell BK107.out 2).trans rfl, (blk_cell BK108.out 0).trans rfl, (blk_cell BK108.out 1).trans rfl, (blk_cell BK108.out 2).trans rfl⟩ (fun hHeld => ?_)
      clear hK K
      refine norm_ (a' := ?_) ?_ ?_
      rotate_left
      · show Act.put _ (some 18) _ = _
        simp only [Act.put, List.setIfInBounds_toArray, List.set_cons_zero, List.set_cons_succ, i64_w, i32_w]
        rfl
      refine one_ (i := 9) (N := some 21) #[true, true, true, true, true, true, true, true, true, true, false, false] rfl rfl (one_of HT_.out (by kernel_rfl)) (by decide) (fun K hK => ?_)
      refine goes_ Try.func16 (by kernel_rfl) rfl #[.agg #[.int .u64 a0_3, .int .u32 a0_4, .int .u32 a0_5], .agg #[.int .u64 a0_0, .int .u32 a0_1, .int .u32 a0_2]] (by rfl) rfl rfl (by (try simp only [List.map_toArray, List.map_cons, List.map_nil]); first | done | rfl | (simp only [List.length_drop, List.length_take]; rfl)) ?_
      with_reducible refine (stamp_Less.calls a0_3 a0_4 a0_5 a0_0 a0_1 a0_2 t111 _ A20.out).mono ?_
      rintro e w24 ⟨rfl, hb⟩
      refine ⟨_, rfl, ?_⟩
      have n0_ := Aside0.mk (blk_below (g := gb106) (o := .cells #[.int .u64 a0_0, .int .u32 a0_1, .int .u32 a0_2, .int .u64 a0_3, .int .u32 a0_4, .int .u32 a0_5, .int .u64 a0_6, .int .u32 a0_7, .int .u32 a0_8] 39 (0, 0)) (by (with_reducible repeat (first | refine blk_drewN ?_ _ | refine blk_drew ?_ | refine blk_alloc ?_ _)); exact BK106.out) hb)
      have n1_ := Aside0.mk (blk_below (g := gb107) (o := .cells #[.int .u64 a0_0, .int .u32 a0_1, .int .u32 a0_2] 25 (0, 0)) (by (with_reducible repeat (first | refine blk_drewN ?_ _ | refine blk_drew ?_ | refine blk_alloc ?_ _)); exact BK107.out) hb)
      have n2_ := Aside0.mk (blk_below (g := gb108) (o := .cells #[.int .u64 a0_3, .int .u32 a0_4, .int .u32 a0_5] 25 (0, 0)) (by (with_reducible repeat (first | refine blk_drewN ?_ _ | refine blk_drew ?_ | refine blk_alloc ?_ _)); exact BK108.out) hb)
      have n3_ := Aside0.mk (blk_below (g := gb109) (o := .cells #[.int .u64 a0_6, .int .u32 a0_7, .int .u32 a0_8] 25 (0, 0)) (by (with_reducible repeat (first | refine blk_drewN ?_ _ | refine blk_drew ?_ | refine blk_alloc ?_ _)); exact BK109.out) hb)
      have n4_ := Aside0.mk (below_step (by repeat (first | (with_reducible first | exact HB.out | apply below_alloc | apply pw_below_drewN | apply below_drew1 | refine below_set ?_ GE106.out | refine below_set ?_ GE107.out | refine below_set ?_ GE108.out | refine below_set ?_ GE109.out) | exact HB.out)) hb)
      clear BK106
      clear BK107
      clear BK108
      clear BK109
      clear HB
      have BK106 := n0_
      have BK107 := n1_
      have BK108 := n2_
      have BK109 := n3_
      have HB := n4_
      clear n0_ n1_ n2_ n3_ n4_
      (try clear hb)
      (try clear hb2)
      (try clear hk)
      (try clear hi)
      refine hK.out _ _ ⟨(blk_cell BK107.out 0).trans rfl, (blk_cell BK107.out 1).trans rfl, (blk_cell BK107.out 2).trans rfl, (blk_cell BK108.out 0).trans rfl, (blk_cell BK108.out 1).trans rfl, (blk_cell BK108.out 2).trans rfl⟩ (fun hHeld => ?_)
      clear hK K
      refine norm_ (a' := ?_) ?_ ?_
      rotate_left
      · show Act.put _ (some 21) _ = _
        simp only [Act.put, List.setIfInBounds_toArray, List.set_cons_zero, List.set_cons_succ, i64_w, i32_w]
        rfl
      refine pure_ (i := 10) (N := some 22) (v := ?_) (a' := ?_) #[true, true, true, true, true, true, true, true, true, true, true, false] rfl rfl (any_of HT_.out (by kernel_rfl)) (fun _ _ _ h => h) (Or.inl ⟨by rfl, ?_⟩) ?_ ?_
      rotate_left
      · intro w'
        go_simp
        with_reducible rfl
      rotate_left
      · simp only [Act.put, List.setIfInBounds_toArray, List.set_cons_zero, List.set_cons_succ, i64_w, i32_w]
        rfl
      refine pure_ (i := 11) (N := some 23) (v := ?_) (a' := ?_) #[true, true, true, true, true, true, true, true, true, true, true, true] rfl rfl (any_of HT_.out (by kernel_rfl)) (fun _ _ _ h => h) (Or.inl ⟨by rfl, ?_⟩) ?_ ?_
      rotate_left
      · intro w'
        go_simp
        with_reducible rfl
      rotate_left
      · simp only [Act.put, List.setIfInBounds_toArray, List.set_cons_zero, List.set_cons_succ, i64_w, i32_w]
        rfl
      refine done_ (done_of HT_.out (by kernel_rfl)) ?_
      try go_wp2
      go_meet
      case rel => exact ⟨_, ((t110 == t111)), (by first | rfl | (simp; done) | (simp [*]; done)), H', ⟨by first | omega | exact Nat.le_refl _⟩, ⟨by (with_reducible repeat (first | refine blk_drewN ?_ _ | refine blk_drew ?_ | refine blk_alloc ?_ _)); exact BK106.out⟩, ⟨by (with_reducible repeat (first | refine blk_drewN ?_ _ | refine blk_drew ?_ | refine blk_alloc ?_ _)); exact BK107.out⟩, ⟨by (with_reducible repeat (first | refine blk_drewN ?_ _ | refine blk_drew ?_ | refine blk_alloc ?_ _)); exact BK108.out⟩, ⟨by (with_reducible repeat (first | refine blk_drewN ?_ _ | refine blk_drew ?_ | refine blk_alloc ?_ _)); exact BK109.out⟩, ⟨by repeat (first | (with_reducible first | exact HB.out | apply below_alloc | apply pw_below_drewN | apply below_drew1 | refine below_set ?_ GE106.out | refine below_set ?_ GE107.out | refine below_set ?_ GE108.out | refine below_set ?_ GE109.out) | exact HB.out)⟩⟩
    · rw [if_neg c18] at H
      have c18b0 : (!(a0_0 == a0_3) || (!(a0_1 == a0_4) || (!(a0_2 == a0_5)))) = false := by simpa using c18
      clear c18
      (first | rw [c18b0] | (simp only [i64_w, i32_w]; rw [c18b0]) | skip)
      have H' := Aside0.mk H
      clear H
      try go_wp2
      have n0_ : Aside0 ((((((((((w8.setCell ⟨gb107, 0, none⟩ (.int .u64 a0_0)).setCell ⟨gb107, 1, none⟩ (.int .u32 a0_1)).setCell ⟨gb107, 2, none⟩ (.int .u32 a0_2)).setCell ⟨gb108, 0, none⟩ (.int .u64 a0_3)).setCell ⟨gb108, 1, none⟩ (.int .u32 a0_4)).setCell ⟨gb108, 2, none⟩ (.int .u32 a0_5)).setCell ⟨gb109, 0, none⟩ (.int .u64 a0_6)).setCell ⟨gb109, 1, none⟩ (.int .u32 a0_7)).setCell ⟨gb109, 2, none⟩ (.int .u32 a0_8)).heap[gb106]? = some (.cells #[.int .u64 a0_0, .int .u32 a0_1, .int .u32 a0_2, .int .u64 a0_3, .int .u32 a0_4, .int .u32 a0_5, .int .u64 a0_6, .int .u32 a0_7, .int .u32 a0_8] 39 (0, 0))) := ⟨by (with_reducible repeat (first | refine blk_drewN ?_ _ | refine blk_drew ?_ | refine blk_alloc ?_ _)); refine blk_far ?_ NB106_109.out _; (with_reducible repeat (first | refine blk_drewN ?_ _ | refine blk_drew ?_ | refine blk_alloc ?_ _)); refine blk_far ?_ NB106_109.out _; (with_reducible repeat (first | refine blk_drewN ?_ _ | refine blk_drew ?_ | refine blk_alloc ?_ _)); refine blk_far ?_ NB106_109.out _; (with_reducible repeat (first | refine blk_drewN ?_ _ | refine blk_drew ?_ | refine blk_alloc ?_ _)); refine blk_far ?_ NB106_108.out _; (with_reducible repeat (first | refine blk_drewN ?_ _ | refine blk_drew ?_ | refine blk_alloc ?_ _)); refine blk_far ?_ NB106_108.out _; (with_reducible repeat (first | refine blk_drewN ?_ _ | refine blk_drew ?_ | refine blk_alloc ?_ _)); refine blk_far ?_ NB106_108.out _; (with_reducible repeat (first | refine blk_drewN ?_ _ | refine blk_drew ?_ | refine blk_alloc ?_ _)); refine blk_far ?_ NB106_107.out _; (with_reducible repeat (first | refine blk_drewN ?_ _ | refine blk_drew ?_ | refine blk_alloc ?_ _)); refine blk_far ?_ NB106_107.out _; (with_reducible repeat (first | refine blk_drewN ?_ _ | refine blk_drew ?_ | refine blk_alloc ?_ _)); refine blk_far ?_ NB106_107.out _; (with_reducible repeat (first | refine blk_drewN ?_ _ | refine blk_drew ?_ | refine blk_alloc ?_ _)); exact BK106.out⟩
      have n1_ : Aside0 ((((((((((w8.setCell ⟨gb107, 0, none⟩ (.int .u64 a0_0)).setCell ⟨gb107, 1, none⟩ (.int .u32 a0_1)).setCell ⟨gb107, 2, none⟩ (.int .u32 a0_2)).setCell ⟨gb108, 0, none⟩ (.int .u64 a0_3)).setCell ⟨gb108, 1, none⟩ (.int .u32 a0_4)).setCell ⟨gb108, 2, none⟩ (.int .u32 a0_5)).setCell ⟨gb109, 0, none⟩ (.int .u64 a0_6)).setCell ⟨gb109, 1, none⟩ (.int .u32 a0_7)).setCell ⟨gb109, 2, none⟩ (.int .u32 a0_8)).heap[gb107]? = some (.cells #[.int .u64 a0_0, .int .u32 a0_1, .int .u32 a0_2] 25 (0, 0))) := ⟨by (with_reducible repeat (first | refine blk_drewN ?_ _ | refine blk_drew ?_ | refine blk_alloc ?_ _)); refine blk_far ?_ NB107_109.out _; (with_reducible repeat (first | refine blk_drewN ?_ _ | refine blk_drew ?_ | refine blk_alloc ?_ _)); refine blk_far ?_ NB107_109.out _; (with_reducible repeat (first | refine blk_drewN ?_ _ | refine blk_drew ?_ | refine blk_alloc ?_ _)); refine blk_far ?_ NB107_109.out _; (with_reducible repeat (first | refine blk_drewN ?_ _ | refine blk_drew ?_ | refine blk_alloc ?_ _)); refine blk_far ?_ NB107_108.out _; (with_reducible repeat (first | refine blk_drewN ?_ _ | refine blk_drew ?_ | refine blk_alloc ?_ _)); refine blk_far ?_ NB107_108.out _; (with_reducible repeat (first | refine blk_drewN ?_ _ | refine blk_drew ?_ | refine blk_alloc ?_ _)); refine blk_far ?_ NB107_108.out _; (with_reducible repeat (first | refine blk_drewN ?_ _ | refine blk_drew ?_ | refine blk_alloc ?_ _)); refine blk_put (cs := #[.int .u64 a0_0, .int .u32 a0_1, .int .u32 0]) ?_ 2 _ rfl; (with_reducible repeat (first | refine blk_drewN ?_ _ | refine blk_drew ?_ | refine blk_alloc ?_ _)); refine blk_put (cs := #[.int .u64 a0_0, .int .u32 0, .int .u32 0]) ?_ 1 _ rfl; (with_reducible repeat (first | refine blk_drewN ?_ _ | refine blk_drew ?_ | refine blk_alloc ?_ _)); refine blk_put (cs := #[.int .u64 0, .int .u32 0, .int .u32 0]) ?_ 0 _ rfl; (with_reducible repeat (first | refine blk_drewN ?_ _ | refine blk_drew ?_ | refine blk_alloc ?_ _)); exact BK107.out⟩
      have n2_ : Aside0 ((((((((((w8.setCell ⟨gb107, 0, none⟩ (.int .u64 a0_0)).setCell ⟨gb107, 1, none⟩ (.int .u32 a0_1)).setCell ⟨gb107, 2, none⟩ (.int .u32 a0_2)).setCell ⟨gb108, 0, none⟩ (.int .u64 a0_3)).setCell ⟨gb108, 1, none⟩ (.int .u32 a0_4)).setCell ⟨gb108, 2, none⟩ (.int .u32 a0_5)).setCell ⟨gb109, 0, none⟩ (.int .u64 a0_6)).setCell ⟨gb109, 1, none⟩ (.int .u32 a0_7)).setCell ⟨gb109, 2, none⟩ (.int .u32 a0_8)).heap[gb108]? = some (.cells #[.int .u64 a0_3, .int .u32 a0_4, .int .u32 a0_5] 25 (0, 0))) := ⟨by (with_reducible repeat (first | refine blk_drewN ?_ _ | refine blk_drew ?_ | refine blk_alloc ?_ _)); refine blk_far ?_ NB108_109.out _; (with_reducible repeat (first | refine blk_drewN ?_ _ | refine blk_drew ?_ | refine blk_alloc ?_ _)); refine blk_far ?_ NB108_109.out _; (with_reducible repeat (first | refine blk_drewN ?_ _ | refine blk_drew ?_ | refine blk_alloc ?_ _)); refine blk_far ?_ NB108_109.out _; (with_reducible repeat (first | refine blk_drewN ?_ _ | refine blk_drew ?_ | refine blk_alloc ?_ _)); refine blk_put (cs := #[.int .u64 a0_3, .int .u32 a0_4, .int .u32 0]) ?_ 2 _ rfl; (with_reducible repeat (first | refine blk_drewN ?_ _ | refine blk_drew ?_ | refine blk_alloc ?_ _)); refine blk_put (cs := #[.int .u64 a0_3, .int .u32 0, .int .u32 0]) ?_ 1 _ rfl; (with_reducible repeat (first | refine blk_drewN ?_ _ | refine blk_drew ?_ | refine blk_alloc ?_ _)); refine blk_put (cs := #[.int .u64 0, .int .u32 0, .int .u32 0]) ?_ 0 _ rfl; (with_reducible repeat (first | refine blk_drewN ?_ _ | refine blk_drew ?_ | refine blk_alloc ?_ _)); refine blk_far ?_ NB108_107.out _; (with_reducible repeat (first | refine blk_drewN ?_ _ | refine blk_drew ?_ | refine blk_alloc ?_ _)); refine blk_far ?_ NB108_107.out _; (with_reducible repeat (first | refine blk_drewN ?_ _ | refine blk_drew ?_ | refine blk_alloc ?_ _)); refine blk_far ?_ NB108_107.out _; (with_reducible repeat (first | refine blk_drewN ?_ _ | refine blk_drew ?_ | refine blk_alloc ?_ _)); exact BK108.out⟩
      have n3_ : Aside0 ((((((((((w8.setCell ⟨gb107, 0, none⟩ (.int .u64 a0_0)).setCell ⟨gb107, 1, none⟩ (.int .u32 a0_1)).setCell ⟨gb107, 2, none⟩ (.int .u32 a0_2)).setCell ⟨gb108, 0, none⟩ (.int .u64 a0_3)).setCell ⟨gb108, 1, none⟩ (.int .u32 a0_4)).setCell ⟨gb108, 2, none⟩ (.int .u32 a0_5)).setCell ⟨gb109, 0, none⟩ (.int .u64 a0_6)).setCell ⟨gb109, 1, none⟩ (.int .u32 a0_7)).setCell ⟨gb109, 2, none⟩ (.int .u32 a0_8)).heap[gb109]? = some (.cells #[.int .u64 a0_6, .int .u32 a0_7, .int .u32 a0_8] 25 (0, 0))) := ⟨by (with_reducible repeat (first | refine blk_drewN ?_ _ | refine blk_drew ?_ | refine blk_alloc ?_ _)); refine blk_put (cs := #[.int .u64 a0_6, .int .u32 a0_7, .int .u32 0]) ?_ 2 _ rfl; (with_reducible repeat (first | refine blk_drewN ?_ _ | refine blk_drew ?_ | refine blk_alloc ?_ _)); refine blk_put (cs := #[.int .u64 a0_6, .int .u32 0, .int .u32 0]) ?_ 1 _ rfl; (with_reducible repeat (first | refine blk_drewN ?_ _ | refine blk_drew ?_ | refine blk_alloc ?_ _)); refine blk_put (cs := #[.int .u64 0, .int .u32 0, .int .u32 0]) ?_ 0 _ rfl; (with_reducible repeat (first | refine blk_drewN ?_ _ | refine blk_drew ?_ | refine blk_alloc ?_ _)); refine blk_far ?_ NB109_108.out _; (with_reducible repeat (first | refine blk_drewN ?_ _ | refine blk_drew ?_ | refine blk_alloc ?_ _)); refine blk_far ?_ NB109_108.out _; (with_reducible repeat (first | refine blk_drewN ?_ _ | refine blk_drew ?_ | refine blk_alloc ?_ _)); refine blk_far ?_ NB109_108.out _; (with_reducible repeat (first | refine blk_drewN ?_ _ | refine blk_drew ?_ | refine blk_alloc ?_ _)); refine blk_far ?_ NB109_107.out _; (with_reducible repeat (first | refine blk_drewN ?_ _ | refine blk_drew ?_ | refine blk_alloc ?_ _)); refine blk_far ?_ NB109_107.out _; (with_reducible repeat (first | refine blk_drewN ?_ _ | refine blk_drew ?_ | refine blk_alloc ?_ _)); refine blk_far ?_ NB109_107.out _; (with_reducible repeat (first | refine blk_drewN ?_ _ | refine blk_drew ?_ | refine blk_alloc ?_ _)); exact BK109.out⟩
      have n4_ : Aside0 (Below w.heap.size w (((((((((w8.setCell ⟨gb107, 0, none⟩ (.int .u64 a0_0)).setCell ⟨gb107, 1, none⟩ (.int .u32 a0_1)).setCell ⟨gb107, 2, none⟩ (.int .u32 a0_2)).setCell ⟨gb108, 0, none⟩ (.int .u64 a0_3)).setCell ⟨gb108, 1, none⟩ (.int .u32 a0_4)).setCell ⟨gb108, 2, none⟩ (.int .u32 a0_5)).setCell ⟨gb109, 0, none⟩ (.int .u64 a0_6)).setCell ⟨gb109, 1, none⟩ (.int .u32 a0_7)).setCell ⟨gb109, 2, none⟩ (.int .u32 a0_8))) := ⟨by repeat (first | (with_reducible first | exact HB.out | apply below_alloc | apply pw_below_drewN | apply below_drew1 | refine below_set ?_ GE106.out | refine below_set ?_ GE107.out | refine below_set ?_ GE108.out | refine below_set ?_ GE109.out) | exact HB.out)⟩
      (try clear BK106)
      (try clear BK107)
      (try clear BK108)
      (try clear BK109)
      (try clear HB)
      generalize (((((((((w8.setCell ⟨gb107, 0, none⟩ (.int .u64 a0_0)).setCell ⟨gb107, 1, none⟩ (.int .u32 a0_1)).setCell ⟨gb107, 2, none⟩ (.int .u32 a0_2)).setCell ⟨gb108, 0, none⟩ (.int .u64 a0_3)).setCell ⟨gb108, 1, none⟩ (.int .u32 a0_4)).setCell ⟨gb108, 2, none⟩ (.int .u32 a0_5)).setCell ⟨gb109, 0, none⟩ (.int .u64 a0_6)).setCell ⟨gb109, 1, none⟩ (.int .u32 a0_7)).setCell ⟨gb109, 2, none⟩ (.int .u32 a0_8)) = w25 at n0_ n1_ n2_ n3_ n4_ ⊢
      have BK106 := n0_
      have BK107 := n1_
      have BK108 := n2_
      have BK109 := n3_
      have HB := n4_
      clear n0_ n1_ n2_ n3_ n4_
      have n0_ := Aside0.mk (blk_drew BK106.out)
      have n1_ := Aside0.mk (blk_drew BK107.out)
      have n2_ := Aside0.mk (blk_drew BK108.out)
      have n3_ := Aside0.mk (blk_drew BK109.out)
      have n4_ := Aside0.mk (below_drew1 HB.out)
      clear BK106
      clear BK107
      clear BK108
      clear BK109
      clear HB
      have BK106 := n0_
      have BK107 := n1_
      have BK108 := n2_
      have BK109 := n3_
      have HB := n4_
      clear n0_ n1_ n2_ n3_ n4_
      refine start_ (n := 12) (S := fun w' => w'.cell? ⟨gb107, 0, none⟩ = some (.int .u64 a0_0) ∧ w'.cell? ⟨gb107, 1, none⟩ = some (.int .u32 a0_1) ∧ w'.cell? ⟨gb107, 2, none⟩ = some (.int .u32 a0_2) ∧ w'.cell? ⟨gb108, 0, none⟩ = some (.int .u64 a0_3) ∧ w'.cell? ⟨gb108, 1, none⟩ = some (.int .u32 a0_4) ∧ w'.cell? ⟨gb108, 2, none⟩ = some (.int .u32 a0_5)) (ds := []) #[false, false, false, false, false, false, false, false, false, false, false, false] (by kernel_rfl) rfl rfl ⟨(blk_cell BK107.out 0).trans rfl, (blk_cell BK107.out 1).trans rfl, (blk_cell BK107.out 2).trans rfl, (blk_cell BK108.out 0).trans rfl, (blk_cell BK108.out 1).trans rfl, (blk_cell BK108.out 2).trans rfl⟩ (fun hHeld => ?_); refine with_tabW tidemarklaw1_StampTotal.tab2 tidemarklaw1_StampTotal.bits2 (fun HT_ HW_ => ?_)
      generalize w25.drew = w26 at BK106 BK107 BK108 BK109 HB hHeld ⊢
      refine take_ (i := 0) (N := some 12) (v := ?_) (a' := ?_) #[true, false, false, false, false, false, false, false, false, false, false, false] rfl rfl (take_ofW HT_.out HW_.out (by kernel_rfl)) (fun _ _ _ h => h) (Or.inl ⟨by rfl, ?_⟩) hHeld ?_ ?_
      rotate_left
      · rintro w' ⟨s0, s1, s2, s3, s4, s5⟩
        go_simp
        with_reducible rfl
      rotate_left
      · simp only [Act.put, List.setIfInBounds_toArray, List.set_cons_zero, List.set_cons_succ, i64_w, i32_w]
        rfl
      refine take_ (i := 1) (N := some 13) (v := ?_) (a' := ?_) #[true, true, false, false, false, false, false, false, false, false, false, false] rfl rfl (take_ofW HT_.out HW_.out (by kernel_rfl)) (fun _ _ _ h => h) (Or.inl ⟨by rfl, ?_⟩) hHeld ?_ ?_
      rotate_left
      · rintro w' ⟨s0, s1, s2, s3, s4, s5⟩
        go_simp
        with_reducible rfl
      rotate_left
      · simp only [Act.put, List.setIfInBounds_toArray, List.set_cons_zero, List.set_cons_succ, i64_w, i32_w]
        rfl
      refine pure_ (i := 2) (N := some 14) (v := ?_) (a' := ?_) #[true, true, true, false, false, false, false, false, false, false, false, false] rfl rfl (any_of HT_.out (by kernel_rfl)) (fun _ _ _ h => h) (Or.inl ⟨by rfl, ?_⟩) ?_ ?_
      rotate_left
      · intro w'
        go_simp
        with_reducible rfl
      rotate_left
      · simp only [Act.put, List.setIfInBounds_toArray, List.set_cons_zero, List.set_cons_succ, i64_w, i32_w]
        rfl
      refine pure_ (i := 3) (N := some 15) (v := ?_) (a' := ?_) #[true, true, true, true, false, false, false, false, false, false, false, false] rfl rfl (any_of HT_.out (by kernel_rfl)) (fun _ _ _ h => h) (Or.inl ⟨by rfl, ?_⟩) ?_ ?_
      rotate_left
      · intro w'
        go_simp
        with_reducible rfl
      rotate_left
      · simp only [Act.put, List.setIfInBounds_toArray, List.set_cons_zero, List.set_cons_succ, i64_w, i32_w]
        rfl
      refine pure_ (i := 4) (N := some 16) (v := undef) (a' := ?_) #[true, true, true, true, true, false, false, false, false, false, false, false] rfl rfl (any_of HT_.out (by kernel_rfl)) (fun _ _ _ h => h) (Or.inr ⟨by rfl, rfl⟩) ?_ ?_
      rotate_left
      · simp only [Act.put, List.setIfInBounds_toArray, List.set_cons_zero, List.set_cons_succ, i64_w, i32_w]
        rfl
      refine pure_ (i := 5) (N := some 17) (v := undef) (a' := ?_) #[true, true, true, true, true, true, false, false, false, false, false, false] rfl rfl (any_of HT_.out (by kernel_rfl)) (fun _ _ _ h => h) (Or.inr ⟨by rfl, rfl⟩) ?_ ?_
      rotate_left
      · simp only [Act.put, List.setIfInBounds_toArray, List.set_cons_zero, List.set_cons_succ, i64_w, i32_w]
        rfl
      refine pure_ (i := 6) (N := some 18) (v := undef) (a' := ?_) #[true, true, true, true, true, true, true, false, false, false, false, false] rfl rfl (any_of HT_.out (by kernel_rfl)) (fun _ _ _ h => h) (Or.inr ⟨by rfl, rfl⟩) ?_ ?_
      rotate_left
      · simp only [Act.put, List.setIfInBounds_toArray, List.set_cons_zero, List.set_cons_succ, i64_w, i32_w]
        rfl
      refine pure_ (i := 7) (N := some 19) (v := undef) (a' := ?_) #[true, true, true, true, true, true, true, true, false, false, false, false] rfl rfl (any_of HT_.out (by kernel_rfl)) (fun _ _ _ h => h) (Or.inr ⟨by rfl, rfl⟩) ?_ ?_
      rotate_left
      · simp only [Act.put, List.setIfInBounds_toArray, List.set_cons_zero, List.set_cons_succ, i64_w, i32_w]
        rfl
      refine pure_ (i := 8) (N := some 20) (v := undef) (a' := ?_) #[true, true, true, true, true, true, true, true, true, false, false, false] rfl rfl (any_of HT_.out (by kernel_rfl)) (fun _ _ _ h => h) (Or.inr ⟨by rfl, rfl⟩) ?_ ?_
      rotate_left
      · simp only [Act.put, List.setIfInBounds_toArray, List.set_cons_zero, List.set_cons_succ, i64_w, i32_w]
        rfl
      refine pure_ (i := 9) (N := some 21) (v := undef) (a' := ?_) #[true, true, true, true, true, true, true, true, true, true, false, false] rfl rfl (any_of HT_.out (by kernel_rfl)) (fun _ _ _ h => h) (Or.inr ⟨by rfl, rfl⟩) ?_ ?_
      rotate_left
      · simp only [Act.put, List.setIfInBounds_toArray, List.set_cons_zero, List.set_cons_succ, i64_w, i32_w]
        rfl
      refine pure_ (i := 10) (N := some 22) (v := undef) (a' := ?_) #[true, true, true, true, true, true, true, true, true, true, true, false] rfl rfl (any_of HT_.out (by kernel_rfl)) (fun _ _ _ h => h) (Or.inr ⟨by rfl, rfl⟩) ?_ ?_
      rotate_left
      · simp only [Act.put, List.setIfInBounds_toArray, List.set_cons_zero, List.set_cons_succ, i64_w, i32_w]
        rfl
      refine pure_ (i := 11) (N := some 23) (v := ?_) (a' := ?_) #[true, true, true, true, true, true, true, true, true, true, true, true] rfl rfl (any_of HT_.out (by kernel_rfl)) (fun _ _ _ h => h) (Or.inl ⟨by rfl, ?_⟩) ?_ ?_
      rotate_left
      · intro w'
        go_simp
        with_reducible rfl
      rotate_left
      · simp only [Act.put, List.setIfInBounds_toArray, List.set_cons_zero, List.set_cons_succ, i64_w, i32_w]
        rfl
      refine done_ (done_of HT_.out (by kernel_rfl)) ?_
      try go_wp2
      go_meet
      case rel => exact ⟨_, (false), (by first | rfl | (simp; done) | (simp [*]; done)), H', ⟨by first | omega | exact Nat.le_refl _⟩, ⟨by (with_reducible repeat (first | refine blk_drewN ?_ _ | refine blk_drew ?_ | refine blk_alloc ?_ _)); exact BK106.out⟩, ⟨by (with_reducible repeat (first | refine blk_drewN ?_ _ | refine blk_drew ?_ | refine blk_alloc ?_ _)); exact BK107.out⟩, ⟨by (with_reducible repeat (first | refine blk_drewN ?_ _ | refine blk_drew ?_ | refine blk_alloc ?_ _)); exact BK108.out⟩, ⟨by (with_reducible repeat (first | refine blk_drewN ?_ _ | refine blk_drew ?_ | refine blk_alloc ?_ _)); exact BK109.out⟩, ⟨by repeat (first | (with_reducible first | exact HB.out | apply below_alloc | apply pw_below_drewN | apply below_drew1 | refine below_set ?_ GE106.out | refine below_set ?_ GE107.out | refine below_set ?_ GE108.out | refine below_set ?_ GE109.out) | exact HB.out)⟩⟩
  case rest =>
    clear HC2
    try clear c1
    try clear p2
    try clear c16
    try clear c18
    try clear c18b0
    obtain ⟨kq, x23_1, rfl, HA, HJ1, BK106, BK107, BK108, BK109, HB⟩ := hcut
    cases kq with
    | zero => exact absurd HA.out (by simp [tidemarklaw1_StampTotal.j0])
    | succ kj1 =>
      have H := HA.out
      clear HA
      simp only [tidemarklaw1_StampTotal.j0] at H
      by_cases c27 : x23_1 = true
      · subst c27
        have H1 : (some false) = some r := by rw [if_pos rfl] at H; exact H
        clear H
        have H := H1
        clear H1
        obtain rfl := Option.some.inj H
        go_wp2
        go_ret
        exact ⟨by first | rfl | (simp [errW_none, errW_some] <;> rfl) | (simp [*, errW_none, errW_some] <;> rfl), by repeat (first | (with_reducible first | exact HB.out | apply below_alloc | apply pw_below_drewN | apply below_drew1 | refine below_set ?_ GE106.out | refine below_set ?_ GE107.out | refine below_set ?_ GE108.out | refine below_set ?_ GE109.out) | exact HB.out)⟩
      · replace c27 := Bool.eq_false_iff.mpr c27
        subst c27
        have H1 : ((stamp_Less.f a0_0 a0_1 a0_2 a0_0 a0_1 a0_2).bind fun t112 => (if t112 = true then (tidemarklaw1_StampTotal.j1 kj1 true a0_0 a0_1 a0_2 a0_3 a0_4 a0_5 a0_6 a0_7 a0_8) else ((stamp_Compare.f a0_0 a0_1 a0_2 a0_3 a0_4 a0_5).bind fun t113 => (tidemarklaw1_StampTotal.j1 kj1 ((t113 == 0) != (a0_0 == a0_3 && (a0_1 == a0_4 && (a0_2 == a0_5)))) a0_0 a0_1 a0_2 a0_3 a0_4 a0_5 a0_6 a0_7 a0_8)))) = some r := by rw [if_neg (show ¬ (false = true) by decide)] at H; exact H
        clear H
        have H := H1
        clear H1
        have HC28 := Aside0.mk H
        clear H
        go_upto_region 4 with (fail)
        go_cut [36] (fun v36 wc => ∃ (kq : Nat) (x36_27 : Bool), v36 = .bool x36_27 ∧ Aside0 (tidemarklaw1_StampTotal.j1 kq x36_27 a0_0 a0_1 a0_2 a0_3 a0_4 a0_5 a0_6 a0_7 a0_8 = some r) ∧ Aside0 (kq ≤ kj1) ∧ Aside0 (wc.heap[gb106]? = some (.cells #[.int .u64 a0_0, .int .u32 a0_1, .int .u32 a0_2, .int .u64 a0_3, .int .u32 a0_4, .int .u32 a0_5, .int .u64 a0_6, .int .u32 a0_7, .int .u32 a0_8] 39 (0, 0))) ∧ Aside0 (wc.heap[gb107]? = some (.cells #[.int .u64 a0_0, .int .u32 a0_1, .int .u32 a0_2] 25 (0, 0))) ∧ Aside0 (wc.heap[gb108]? = some (.cells #[.int .u64 a0_3, .int .u32 a0_4, .int .u32 a0_5] 25 (0, 0))) ∧ Aside0 (wc.heap[gb109]? = some (.cells #[.int .u64 a0_6, .int .u32 a0_7, .int .u32 a0_8] 25 (0, 0))) ∧ Aside0 (Below w.heap.size w wc))
        case first =>
          have H := HC28.out
          clear HC28
          replace H := Option.bind_eq_some_iff.mp H
          obtain ⟨t112, A290, H⟩ := H
          replace H : (if t112 = true then (tidemarklaw1_StampTotal.j1 kj1 true a0_0 a0_1 a0_2 a0_3 a0_4 a0_5 a0_6 a0_7 a0_8) else ((stamp_Compare.f a0_0 a0_1 a0_2 a0_3 a0_4 a0_5).bind fun t113 => (tidemarklaw1_StampTotal.j1 kj1 ((t113 == 0) != (a0_0 == a0_3 && (a0_1 == a0_4 && (a0_2 == a0_5)))) a0_0 a0_1 a0_2 a0_3 a0_4 a0_5 a0_6 a0_7 a0_8))) = some r := H
          have A29 := Aside0.mk A290
          clear A290
          by_cases c30 : t112 = true
          · subst c30
            have H1 : (tidemarklaw1_StampTotal.j1 kj1 true a0_0 a0_1 a0_2 a0_3 a0_4 a0_5 a0_6 a0_7 a0_8) = some r := by rw [if_pos rfl] at H; exact H
            clear H
            have H := H1
            clear H1
            have H' := Aside0.mk H
            clear H
            try go_wp2
            have n0_ := Aside0.mk (blk_drew BK106.out)
            have n1_ := Aside0.mk (blk_drew BK107.out)
            have n2_ := Aside0.mk (blk_drew BK108.out)
            have n3_ := Aside0.mk (blk_drew BK109.out)
            have n4_ := Aside0.mk (below_drew1 HB.out)
            clear BK106
            clear BK107
            clear BK108
            clear BK109
            clear HB
            have BK106 := n0_
            have BK107 := n1_
            have BK108 := n2_
            have BK109 := n3_
            have HB := n4_
            clear n0_ n1_ n2_ n3_ n4_
            refine start_ (n := 13) (S := fun w' => w'.cell? ⟨gb107, 0, none⟩ = some (.int .u64 a0_0) ∧ w'.cell? ⟨gb107, 1, none⟩ = some (.int .u32 a0_1) ∧ w'.cell? ⟨gb107, 2, none⟩ = some (.int .u32 a0_2)) (ds := []) #[false, false, false, false, false, false, false, false, false, false, false, false, false] (by kernel_rfl) rfl rfl ⟨(blk_cell BK107.out 0).trans rfl, (blk_cell BK107.out 1).trans rfl, (blk_cell BK107.out 2).trans rfl⟩ (fun hHeld => ?_); refine with_tabW tidemarklaw1_StampTotal.tab4 tidemarklaw1_StampTotal.bits4 (fun HT_ HW_ => ?_)
            generalize wc.drew = w31 at BK106 BK107 BK108 BK109 HB hHeld ⊢
            refine take_ (i := 0) (N := some 24) (v := ?_) (a' := ?_) #[true, false, false, false, false, false, false, false, false, false, false, false, false] rfl rfl (take_ofW HT_.out HW_.out (by kernel_rfl)) (fun _ _ _ h => h) (Or.inl ⟨by rfl, ?_⟩) hHeld ?_ ?_
            rotate_left
            · rintro w' ⟨s0, s1, s2⟩
              go_simp
              with_reducible rfl
            rotate_left
            · simp only [Act.put, List.setIfInBounds_toArray, List.set_cons_zero, List.set_cons_succ, i64_w, i32_w]
              rfl
            refine take_ (i := 1) (N := some 25) (v := ?_) (a' := ?_) #[true, true, false, false, false, false, false, false, false, false, false, false, false] rfl rfl (take_ofW HT_.out HW_.out (by kernel_rfl)) (fun _ _ _ h => h) (Or.inl ⟨by rfl, ?_⟩) hHeld ?_ ?_
            rotate_left
            · rintro w' ⟨s0, s1, s2⟩
              go_simp
              with_reducible rfl
            rotate_left
            · simp only [Act.put, List.setIfInBounds_toArray, List.set_cons_zero, List.set_cons_succ, i64_w, i32_w]
              rfl
            refine one_ (i := 2) (N := some 26) #[true, true, true, false, false, false, false, false, false, false, false, false, false] rfl rfl (one_of HT_.out (by kernel_rfl)) (by decide) (fun K hK => ?_)
            refine goes_ Try.func16 (by kernel_rfl) rfl #[.agg #[.int .u64 a0_0, .int .u32 a0_1, .int .u32 a0_2], .agg #[.int .u64 a0_0, .int .u32 a0_1, .int .u32 a0_2]] (by rfl) rfl rfl (by (try simp only [List.map_toArray, List.map_cons, List.map_nil]); first | done | rfl | (simp only [List.length_drop, List.length_take]; rfl)) ?_
            with_reducible refine (stamp_Less.calls a0_0 a0_1 a0_2 a0_0 a0_1 a0_2 true _ A29.out).mono ?_
            rintro e w32 ⟨rfl, hb⟩
            refine ⟨_, rfl, ?_⟩
            have n0_ := Aside0.mk (blk_below (g := gb106) (o := .cells #[.int .u64 a0_0, .int .u32 a0_1, .int .u32 a0_2, .int .u64 a0_3, .int .u32 a0_4, .int .u32 a0_5, .int .u64 a0_6, .int .u32 a0_7, .int .u32 a0_8] 39 (0, 0)) (by (with_reducible repeat (first | refine blk_drewN ?_ _ | refine blk_drew ?_ | refine blk_alloc ?_ _)); exact BK106.out) hb)
            have n1_ := Aside0.mk (blk_below (g := gb107) (o := .cells #[.int .u64 a0_0, .int .u32 a0_1, .int .u32 a0_2] 25 (0, 0)) (by (with_reducible repeat (first | refine blk_drewN ?_ _ | refine blk_drew ?_ | refine blk_alloc ?_ _)); exact BK107.out) hb)
            have n2_ := Aside0.mk (blk_below (g := gb108) (o := .cells #[.int .u64 a0_3, .int .u32 a0_4, .int .u32 a0_5] 25 (0, 0)) (by (with_reducible repeat (first | refine blk_drewN ?_ _ | refine blk_drew ?_ | refine blk_alloc ?_ _)); exact BK108.out) hb)
            have n3_ := Aside0.mk (blk_below (g := gb109) (o := .cells #[.int .u64 a0_6, .int .u32 a0_7, .int .u32 a0_8] 25 (0, 0)) (by (with_reducible repeat (first | refine blk_drewN ?_ _ | refine blk_drew ?_ | refine blk_alloc ?_ _)); exact BK109.out) hb)
            have n4_ := Aside0.mk (below_step (by repeat (first | (with_reducible first | exact HB.out | apply below_alloc | apply pw_below_drewN | apply below_drew1 | refine below_set ?_ GE106.out | refine below_set ?_ GE107.out | refine below_set ?_ GE108.out | refine below_set ?_ GE109.out) | exact HB.out)) hb)
            clear BK106
            clear BK107
            clear BK108
            clear BK109
            clear HB
            have BK106 := n0_
            have BK107 := n1_
            have BK108 := n2_
            have BK109 := n3_
            have HB := n4_
            clear n0_ n1_ n2_ n3_ n4_
            (try clear hb)
            (try clear hb2)
            (try clear hk)
            (try clear hi)
            refine hK.out _ _ ⟨(blk_cell BK107.out 0).trans rfl, (blk_cell BK107.out 1).trans rfl, (blk_cell BK107.out 2).trans rfl⟩ (fun hHeld => ?_)
            clear hK K
            refine norm_ (a' := ?_) ?_ ?_
            rotate_left
            · show Act.put _ (some 26) _ = _
              simp only [Act.put, List.setIfInBounds_toArray, List.set_cons_zero, List.set_cons_succ, i64_w, i32_w]
              rfl
            refine pure_ (i := 3) (N := some 27) (v := ?_) (a' := ?_) #[true, true, true, true, false, false, false, false, false, false, false, false, false] rfl rfl (any_of HT_.out (by kernel_rfl)) (fun _ _ _ h => h) (Or.inl ⟨by rfl, ?_⟩) ?_ ?_
            rotate_left
            · intro w'
              go_simp
              with_reducible rfl
            rotate_left
            · simp only [Act.put, List.setIfInBounds_toArray, List.set_cons_zero, List.set_cons_succ, i64_w, i32_w]
              rfl
            refine pure_ (i := 4) (N := some 28) (v := undef) (a' := ?_) #[true, true, true, true, true, false, false, false, false, false, false, false, false] rfl rfl (any_of HT_.out (by kernel_rfl)) (fun _ _ _ h => h) (Or.inr ⟨by rfl, rfl⟩) ?_ ?_
            rotate_left
            · simp only [Act.put, List.setIfInBounds_toArray, List.set_cons_zero, List.set_cons_succ, i64_w, i32_w]
              rfl
            refine pure_ (i := 5) (N := some 29) (v := undef) (a' := ?_) #[true, true, true, true, true, true, false, false, false, false, false, false, false] rfl rfl (any_of HT_.out (by kernel_rfl)) (fun _ _ _ h => h) (Or.inr ⟨by rfl, rfl⟩) ?_ ?_
            rotate_left
            · simp only [Act.put, List.setIfInBounds_toArray, List.set_cons_zero, List.set_cons_succ, i64_w, i32_w]
              rfl
            refine pure_ (i := 6) (N := some 30) (v := undef) (a' := ?_) #[true, true, true, true, true, true, true, false, false, false, false, false, false] rfl rfl (any_of HT_.out (by kernel_rfl)) (fun _ _ _ h => h) (Or.inr ⟨by rfl, rfl⟩) ?_ ?_
            rotate_left
            · simp only [Act.put, List.setIfInBounds_toArray, List.set_cons_zero, List.set_cons_succ, i64_w, i32_w]
              rfl
            refine pure_ (i := 7) (N := some 31) (v := undef) (a' := ?_) #[true, true, true, true, true, true, true, true, false, false, false, false, false] rfl rfl (any_of HT_.out (by kernel_rfl)) (fun _ _ _ h => h) (Or.inr ⟨by rfl, rfl⟩) ?_ ?_
            rotate_left
            · simp only [Act.put, List.setIfInBounds_toArray, List.set_cons_zero, List.set_cons_succ, i64_w, i32_w]
              rfl
            refine pure_ (i := 8) (N := some 32) (v := undef) (a' := ?_) #[true, true, true, true, true, true, true, true, true, false, false, false, false] rfl rfl (any_of HT_.out (by kernel_rfl)) (fun _ _ _ h => h) (Or.inr ⟨by rfl, rfl⟩) ?_ ?_
            rotate_left
            · simp only [Act.put, List.setIfInBounds_toArray, List.set_cons_zero, List.set_cons_succ, i64_w, i32_w]
              rfl
            refine pure_ (i := 9) (N := some 33) (v := undef) (a' := ?_) #[true, true, true, true, true, true, true, true, true, true, false, false, false] rfl rfl (any_of HT_.out (by kernel_rfl)) (fun _ _ _ h => h) (Or.inr ⟨by rfl, rfl⟩) ?_ ?_
            rotate_left
            · simp only [Act.put, List.setIfInBounds_toArray, List.set_cons_zero, List.set_cons_succ, i64_w, i32_w]
              rfl
            refine pure_ (i := 10) (N := some 34) (v := undef) (a' := ?_) #[true, true, true, true, true, true, true, true, true, true, true, false, false] rfl rfl (any_of HT_.out (by kernel_rfl)) (fun _ _ _ h => h) (Or.inr ⟨by rfl, rfl⟩) ?_ ?_
            rotate_left
            · simp only [Act.put, List.setIfInBounds_toArray, List.set_cons_zero, List.set_cons_succ, i64_w, i32_w]
              rfl
            refine pure_ (i := 11) (N := some 35) (v := undef) (a' := ?_) #[true, true, true, true, true, true, true, true, true, true, true, true, false] rfl rfl (any_of HT_.out (by kernel_rfl)) (fun _ _ _ h => h) (Or.inr ⟨by rfl, rfl⟩) ?_ ?_
            rotate_left
            · simp only [Act.put, List.setIfInBounds_toArray, List.set_cons_zero, List.set_cons_succ, i64_w, i32_w]
              rfl
            refine pure_ (i := 12) (N := some 36) (v := ?_) (a' := ?_) #[true, true, true, true, true, true, true, true, true, true, true, true, true] rfl rfl (any_of HT_.out (by kernel_rfl)) (fun _ _ _ h => h) (Or.inl ⟨by rfl, ?_⟩) ?_ ?_
            rotate_left
            · intro w'
              go_simp
              with_reducible rfl
            rotate_left
            · simp only [Act.put, List.setIfInBounds_toArray, List.set_cons_zero, List.set_cons_succ, i64_w, i32_w]
              rfl
            refine done_ (done_of HT_.out (by kernel_rfl)) ?_
            try go_wp2
            go_meet
            case rel => exact ⟨_, (true), (by first | rfl | (simp; done) | (simp [*]; done)), H', ⟨by have := HJ1.out; first | omega | exact Nat.le_refl _⟩, ⟨by (with_reducible repeat (first | refine blk_drewN ?_ _ | refine blk_drew ?_ | refine blk_alloc ?_ _)); exact BK106.out⟩, ⟨by (with_reducible repeat (first | refine blk_drewN ?_ _ | refine blk_drew ?_ | refine blk_alloc ?_ _)); exact BK107.out⟩, ⟨by (with_reducible repeat (first | refine blk_drewN ?_ _ | refine blk_drew ?_ | refine blk_alloc ?_ _)); exact BK108.out⟩, ⟨by (with_reducible repeat (first | refine blk_drewN ?_ _ | refine blk_drew ?_ | refine blk_alloc ?_ _)); exact BK109.out⟩, ⟨by repeat (first | (with_reducible first | exact HB.out | apply below_alloc | apply pw_below_drewN | apply below_drew1 | refine below_set ?_ GE106.out | refine below_set ?_ GE107.out | refine below_set ?_ GE108.out | refine below_set ?_ GE109.out) | exact HB.out)⟩⟩
          · replace c30 := Bool.eq_false_iff.mpr c30
            subst c30
            have H1 : ((stamp_Compare.f a0_0 a0_1 a0_2 a0_3 a0_4 a0_5).bind fun t113 => (tidemarklaw1_StampTotal.j1 kj1 ((t113 == 0) != (a0_0 == a0_3 && (a0_1 == a0_4 && (a0_2 == a0_5)))) a0_0 a0_1 a0_2 a0_3 a0_4 a0_5 a0_6 a0_7 a0_8)) = some r := by rw [if_neg (show ¬ (false = true) by decide)] at H; exact H
            clear H
            have H := H1
            clear H1
            replace H := Option.bind_eq_some_iff.mp H
            obtain ⟨t113, A330, H⟩ := H
            replace H : (tidemarklaw1_StampTotal.j1 kj1 ((t113 == 0) != (a0_0 == a0_3 && (a0_1 == a0_4 && (a0_2 == a0_5)))) a0_0 a0_1 a0_2 a0_3 a0_4 a0_5 a0_6 a0_7 a0_8) = some r := H
            have A33 := Aside0.mk A330
            clear A330
            have H' := Aside0.mk H
            clear H
            try go_wp2
            have n0_ := Aside0.mk (blk_drew BK106.out)
            have n1_ := Aside0.mk (blk_drew BK107.out)
            have n2_ := Aside0.mk (blk_drew BK108.out)
            have n3_ := Aside0.mk (blk_drew BK109.out)
            have n4_ := Aside0.mk (below_drew1 HB.out)
            clear BK106
            clear BK107
            clear BK108
            clear BK109
            clear HB
            have BK106 := n0_
            have BK107 := n1_
            have BK108 := n2_
            have BK109 := n3_
            have HB := n4_
            clear n0_ n1_ n2_ n3_ n4_
            refine start_ (n := 13) (S := fun w' => w'.cell? ⟨gb107, 0, none⟩ = some (.int .u64 a0_0) ∧ w'.cell? ⟨gb107, 1, none⟩ = some (.int .u32 a0_1) ∧ w'.cell? ⟨gb107, 2, none⟩ = some (.int .u32 a0_2) ∧ w'.cell? ⟨gb108, 0, none⟩ = some (.int .u64 a0_3) ∧ w'.cell? ⟨gb108, 1, none⟩ = some (.int .u32 a0_4) ∧ w'.cell? ⟨gb108, 2, none⟩ = some (.int .u32 a0_5)) (ds := []) #[false, false, false, false, false, false, false, false, false, false, false, false, false] (by kernel_rfl) rfl rfl ⟨(blk_cell BK107.out 0).trans rfl, (blk_cell BK107.out 1).trans rfl, (blk_cell BK107.out 2).trans rfl, (blk_cell BK108.out 0).trans rfl, (blk_cell BK108.out 1).trans rfl, (blk_cell BK108.out 2).trans rfl⟩ (fun hHeld => ?_); refine with_tabW tidemarklaw1_StampTotal.tab4 tidemarklaw1_StampTotal.bits4 (fun HT_ HW_ => ?_)
            generalize wc.drew = w34 at BK106 BK107 BK108 BK109 HB hHeld ⊢
            refine take_ (i := 0) (N := some 24) (v := ?_) (a' := ?_) #[true, false, false, false, false, false, false, false, false, false, false, false, false] rfl rfl (take_ofW HT_.out HW_.out (by kernel_rfl)) (fun _ _ _ h => h) (Or.inl ⟨by rfl, ?_⟩) hHeld ?_ ?_
            rotate_left
            · rintro w' ⟨s0, s1, s2, s3, s4, s5⟩
              go_simp
              with_reducible rfl
            rotate_left
            · simp only [Act.put, List.setIfInBounds_toArray, List.set_cons_zero, List.set_cons_succ, i64_w, i32_w]
              rfl
            refine take_ (i := 1) (N := some 25) (v := ?_) (a' := ?_) #[true, true, false, false, false, false, false, false, false, false, false, false, false] rfl rfl (take_ofW HT_.out HW_.out (by kernel_rfl)) (fun _ _ _ h => h) (Or.inl ⟨by rfl, ?_⟩) hHeld ?_ ?_
            rotate_left
            · rintro w' ⟨s0, s1, s2, s3, s4, s5⟩
              go_simp
              with_reducible rfl
            rotate_left
            · simp only [Act.put, List.setIfInBounds_toArray, List.set_cons_zero, List.set_cons_succ, i64_w, i32_w]
              rfl
            refine one_ (i := 2) (N := some 26) #[true, true, true, false, false, false, false, false, false, false, false, false, false] rfl rfl (one_of HT_.out (by kernel_rfl)) (by decide) (fun K hK => ?_)
            refine goes_ Try.func16 (by kernel_rfl) rfl #[.agg #[.int .u64 a0_0, .int .u32 a0_1, .int .u32 a0_2], .agg #[.int .u64 a0_0, .int .u32 a0_1, .int .u32 a0_2]] (by rfl) rfl rfl (by (try simp only [List.map_toArray, List.map_cons, List.map_nil]); first | done | rfl | (simp only [List.length_drop, List.length_take]; rfl)) ?_
            with_reducible refine (stamp_Less.calls a0_0 a0_1 a0_2 a0_0 a0_1 a0_2 false _ A29.out).mono ?_
            rintro e w35 ⟨rfl, hb⟩
            refine ⟨_, rfl, ?_⟩
            have n0_ := Aside0.mk (blk_below (g := gb106) (o := .cells #[.int .u64 a0_0, .int .u32 a0_1, .int .u32 a0_2, .int .u64 a0_3, .int .u32 a0_4, .int .u32 a0_5, .int .u64 a0_6, .int .u32 a0_7, .int .u32 a0_8] 39 (0, 0)) (by (with_reducible repeat (first | refine blk_drewN ?_ _ | refine blk_drew ?_ | refine blk_alloc ?_ _)); exact BK106.out) hb)
            have n1_ := Aside0.mk (blk_below (g := gb107) (o := .cells #[.int .u64 a0_0, .int .u32 a0_1, .int .u32 a0_2] 25 (0, 0)) (by (with_reducible repeat (first | refine blk_drewN ?_ _ | refine blk_drew ?_ | refine blk_alloc ?_ _)); exact BK107.out) hb)
            have n2_ := Aside0.mk (blk_below (g := gb108) (o := .cells #[.int .u64 a0_3, .int .u32 a0_4, .int .u32 a0_5] 25 (0, 0)) (by (with_reducible repeat (first | refine blk_drewN ?_ _ | refine blk_drew ?_ | refine blk_alloc ?_ _)); exact BK108.out) hb)
            have n3_ := Aside0.mk (blk_below (g := gb109) (o := .cells #[.int .u64 a0_6, .int .u32 a0_7, .int .u32 a0_8] 25 (0, 0)) (by (with_reducible repeat (first | refine blk_drewN ?_ _ | refine blk_drew ?_ | refine blk_alloc ?_ _)); exact BK109.out) hb)
            have n4_ := Aside0.mk (below_step (by repeat (first | (with_reducible first | exact HB.out | apply below_alloc | apply pw_below_drewN | apply below_drew1 | refine below_set ?_ GE106.out | refine below_set ?_ GE107.out | refine below_set ?_ GE108.out | refine below_set ?_ GE109.out) | exact HB.out)) hb)
            clear BK106
            clear BK107
            clear BK108
            clear BK109
            clear HB
            have BK106 := n0_
            have BK107 := n1_
            have BK108 := n2_
            have BK109 := n3_
            have HB := n4_
            clear n0_ n1_ n2_ n3_ n4_
            (try clear hb)
            (try clear hb2)
            (try clear hk)
            (try clear hi)
            refine hK.out _ _ ⟨(blk_cell BK107.out 0).trans rfl, (blk_cell BK107.out 1).trans rfl, (blk_cell BK107.out 2).trans rfl, (blk_cell BK108.out 0).trans rfl, (blk_cell BK108.out 1).trans rfl, (blk_cell BK108.out 2).trans rfl⟩ (fun hHeld => ?_)
            clear hK K
            refine norm_ (a' := ?_) ?_ ?_
            rotate_left
            · show Act.put _ (some 26) _ = _
              simp only [Act.put, List.setIfInBounds_toArray, List.set_cons_zero, List.set_cons_succ, i64_w, i32_w]
              rfl
            refine pure_ (i := 3) (N := some 27) (v := ?_) (a' := ?_) #[true, true, true, true, false, false, false, false, false, false, false, false, false] rfl rfl (any_of HT_.out (by kernel_rfl)) (fun _ _ _ h => h) (Or.inl ⟨by rfl, ?_⟩) ?_ ?_
            rotate_left
            · intro w'
              go_simp
              with_reducible rfl
            rotate_left
            · simp only [Act.put, List.setIfInBounds_toArray, List.set_cons_zero, List.set_cons_succ, i64_w, i32_w]
              rfl
            refine take_ (i := 4) (N := some 28) (v := ?_) (a' := ?_) #[true, true, true, true, true, false, false, false, false, false, false, false, false] rfl rfl (take_ofW HT_.out HW_.out (by kernel_rfl)) (fun _ _ _ h => h) (Or.inl ⟨by rfl, ?_⟩) hHeld ?_ ?_
            rotate_left
            · rintro w' ⟨s0, s1, s2, s3, s4, s5⟩
              go_simp
              with_reducible rfl
            rotate_left
            · simp only [Act.put, List.setIfInBounds_toArray, List.set_cons_zero, List.set_cons_succ, i64_w, i32_w]
              rfl
            refine take_ (i := 5) (N := some 29) (v := ?_) (a' := ?_) #[true, true, true, true, true, true, false, false, false, false, false, false, false] rfl rfl (take_ofW HT_.out HW_.out (by kernel_rfl)) (fun _ _ _ h => h) (Or.inl ⟨by rfl, ?_⟩) hHeld ?_ ?_
            rotate_left
            · rintro w' ⟨s0, s1, s2, s3, s4, s5⟩
              go_simp
              with_reducible rfl
            rotate_left
            · simp only [Act.put, List.setIfInBounds_toArray, List.set_cons_zero, List.set_cons_succ, i64_w, i32_w]
              rfl
            refine take_ (i := 8) (N := some 32) (v := ?_) (a' := ?_) #[true, true, true, true, true, true, false, false, true, false, false, false, false] rfl rfl (take_ofW HT_.out HW_.out (by kernel_rfl)) (fun _ _ _ h => h) (Or.inl ⟨by rfl, ?_⟩) hHeld ?_ ?_
            rotate_left
            · rintro w' ⟨s0, s1, s2, s3, s4, s5⟩
              go_simp
              with_reducible rfl
            rotate_left
            · simp only [Act.put, List.setIfInBounds_toArray, List.set_cons_zero, List.set_cons_succ, i64_w, i32_w]
              rfl
            refine take_ (i := 9) (N := some 33) (v := ?_) (a' := ?_) #[true, true, true, true, true, true, false, false, true, true, false, false, false] rfl rfl (take_ofW HT_.out HW_.out (by kernel_rfl)) (fun _ _ _ h => h) (Or.inl ⟨by rfl, ?_⟩) hHeld ?_ ?_
            rotate_left
            · rintro w' ⟨s0, s1, s2, s3, s4, s5⟩
              go_simp
              with_reducible rfl
            rotate_left
            · simp only [Act.put, List.setIfInBounds_toArray, List.set_cons_zero, List.set_cons_succ, i64_w, i32_w]
              rfl
            refine pure_ (i := 10) (N := some 34) (v := ?_) (a' := ?_) #[true, true, true, true, true, true, false, false, true, true, true, false, false] rfl rfl (any_of HT_.out (by kernel_rfl)) (fun _ _ _ h => h) (Or.inl ⟨by rfl, ?_⟩) ?_ ?_
            rotate_left
            · intro w'
              go_simp
              with_reducible rfl
            rotate_left
            · simp only [Act.put, List.setIfInBounds_toArray, List.set_cons_zero, List.set_cons_succ, i64_w, i32_w]
              rfl
            refine one_ (i := 6) (N := some 30) #[true, true, true, true, true, true, true, false, true, true, true, false, false] rfl rfl (one_of HT_.out (by kernel_rfl)) (by decide) (fun K hK => ?_)
            refine goes_ Try.func14 (by kernel_rfl) rfl #[.agg #[.int .u64 a0_0, .int .u32 a0_1, .int .u32 a0_2], .agg #[.int .u64 a0_3, .int .u32 a0_4, .int .u32 a0_5]] (by rfl) rfl rfl (by (try simp only [List.map_toArray, List.map_cons, List.map_nil]); first | done | rfl | (simp only [List.length_drop, List.length_take]; rfl)) ?_
            with_reducible refine (stamp_Compare.calls a0_0 a0_1 a0_2 a0_3 a0_4 a0_5 t113 _ A33.out).mono ?_
            rintro e w36 ⟨rfl, hb⟩
            refine ⟨_, rfl, ?_⟩
            have n0_ := Aside0.mk (blk_below (g := gb106) (o := .cells #[.int .u64 a0_0, .int .u32 a0_1, .int .u32 a0_2, .int .u64 a0_3, .int .u32 a0_4, .int .u32 a0_5, .int .u64 a0_6, .int .u32 a0_7, .int .u32 a0_8] 39 (0, 0)) (by (with_reducible repeat (first | refine blk_drewN ?_ _ | refine blk_drew ?_ | refine blk_alloc ?_ _)); exact BK106.out) hb)
            have n1_ := Aside0.mk (blk_below (g := gb107) (o := .cells #[.int .u64 a0_0, .int .u32 a0_1, .int .u32 a0_2] 25 (0, 0)) (by (with_reducible repeat (first | refine blk_drewN ?_ _ | refine blk_drew ?_ | refine blk_alloc ?_ _)); exact BK107.out) hb)
            have n2_ := Aside0.mk (blk_below (g := gb108) (o := .cells #[.int .u64 a0_3, .int .u32 a0_4, .int .u32 a0_5] 25 (0, 0)) (by (with_reducible repeat (first | refine blk_drewN ?_ _ | refine blk_drew ?_ | refine blk_alloc ?_ _)); exact BK108.out) hb)
            have n3_ := Aside0.mk (blk_below (g := gb109) (o := .cells #[.int .u64 a0_6, .int .u32 a0_7, .int .u32 a0_8] 25 (0, 0)) (by (with_reducible repeat (first | refine blk_drewN ?_ _ | refine blk_drew ?_ | refine blk_alloc ?_ _)); exact BK109.out) hb)
            have n4_ := Aside0.mk (below_step (by repeat (first | (with_reducible first | exact HB.out | apply below_alloc | apply pw_below_drewN | apply below_drew1 | refine below_set ?_ GE106.out | refine below_set ?_ GE107.out | refine below_set ?_ GE108.out | refine below_set ?_ GE109.out) | exact HB.out)) hb)
            clear BK106
            clear BK107
            clear BK108
            clear BK109
            clear HB
            have BK106 := n0_
            have BK107 := n1_
            have BK108 := n2_
            have BK109 := n3_
            have HB := n4_
            clear n0_ n1_ n2_ n3_ n4_
            (try clear hb)
            (try clear hb2)
            (try clear hk)
            (try clear hi)
            refine hK.out _ _ ⟨(blk_cell BK107.out 0).trans rfl, (blk_cell BK107.out 1).trans rfl, (blk_cell BK107.out 2).trans rfl, (blk_cell BK108.out 0).trans rfl, (blk_cell BK108.out 1).trans rfl, (blk_cell BK108.out 2).trans rfl⟩ (fun hHeld => ?_)
            clear hK K
            refine norm_ (a' := ?_) ?_ ?_
            rotate_left
            · show Act.put _ (some 30) _ = _
              simp only [Act.put, List.setIfInBounds_toArray, List.set_cons_zero, List.set_cons_succ, i64_w, i32_w]
              rfl
            refine pure_ (i := 7) (N := some 31) (v := ?_) (a' := ?_) #[true, true, true, true, true, true, true, true, true, true, true, false, false] rfl rfl (any_of HT_.out (by kernel_rfl)) (fun _ _ _ h => h) (Or.inl ⟨by rfl, ?_⟩) ?_ ?_
            rotate_left
            · intro w'
              go_simp
              with_reducible rfl
            rotate_left
            · simp only [Act.put, List.setIfInBounds_toArray, List.set_cons_zero, List.set_cons_succ, i64_w, i32_w]
              rfl
            refine pure_ (i := 11) (N := some 35) (v := ?_) (a' := ?_) #[true, true, true, true, true, true, true, true, true, true, true, true, false] rfl rfl (any_of HT_.out (by kernel_rfl)) (fun _ _ _ h => h) (Or.inl ⟨by rfl, ?_⟩) ?_ ?_
            rotate_left
            · intro w'
              go_simp
              with_reducible rfl
            rotate_left
            · simp only [Act.put, List.setIfInBounds_toArray, List.set_cons_zero, List.set_cons_succ, i64_w, i32_w]
              rfl
            refine pure_ (i := 12) (N := some 36) (v := ?_) (a' := ?_) #[true, true, true, true, true, true, true, true, true, true, true, true, true] rfl rfl (any_of HT_.out (by kernel_rfl)) (fun _ _ _ h => h) (Or.inl ⟨by rfl, ?_⟩) ?_ ?_
            rotate_left
            · intro w'
              go_simp
              with_reducible rfl
            rotate_left
            · simp only [Act.put, List.setIfInBounds_toArray, List.set_cons_zero, List.set_cons_succ, i64_w, i32_w]
              rfl
            refine done_ (done_of HT_.out (by kernel_rfl)) ?_
            try go_wp2
            go_meet
            case rel => exact ⟨_, (((t113 == 0) != (a0_0 == a0_3 && (a0_1 == a0_4 && (a0_2 == a0_5))))), (by first | rfl | (simp; done) | (simp [*]; done)), H', ⟨by have := HJ1.out; first | omega | exact Nat.le_refl _⟩, ⟨by (with_reducible repeat (first | refine blk_drewN ?_ _ | refine blk_drew ?_ | refine blk_alloc ?_ _)); exact BK106.out⟩, ⟨by (with_reducible repeat (first | refine blk_drewN ?_ _ | refine blk_drew ?_ | refine blk_alloc ?_ _)); exact BK107.out⟩, ⟨by (with_reducible repeat (first | refine blk_drewN ?_ _ | refine blk_drew ?_ | refine blk_alloc ?_ _)); exact BK108.out⟩, ⟨by (with_reducible repeat (first | refine blk_drewN ?_ _ | refine blk_drew ?_ | refine blk_alloc ?_ _)); exact BK109.out⟩, ⟨by repeat (first | (with_reducible first | exact HB.out | apply below_alloc | apply pw_below_drewN | apply below_drew1 | refine below_set ?_ GE106.out | refine below_set ?_ GE107.out | refine below_set ?_ GE108.out | refine below_set ?_ GE109.out) | exact HB.out)⟩⟩
        case rest =>
          clear HC28
          try clear c1
          try clear c2
          try clear p2
          try clear c3
          try clear c14
          try clear c16
          try clear c18
          try clear c18b0
          try clear c27
          try clear c30
          try clear p2
          obtain ⟨kq, x36_27, rfl, HA, HJ27, BK106, BK107, BK108, BK109, HB⟩ := hcut
          cases kq with
          | zero => exact absurd HA.out (by simp [tidemarklaw1_StampTotal.j1])
          | succ kj27 =>
            have H := HA.out
            clear HA
            simp only [tidemarklaw1_StampTotal.j1] at H
            by_cases c37 : x36_27 = true
            · subst c37
              have H1 : (some false) = some r := by rw [if_pos rfl] at H; exact H
              clear H
              have H := H1
              clear H1
              obtain rfl := Option.some.inj H
              go_wp2
              go_ret
              exact ⟨by first | rfl | (simp [errW_none, errW_some] <;> rfl) | (simp [*, errW_none, errW_some] <;> rfl), by repeat (first | (with_reducible first | exact HB.out | apply below_alloc | apply pw_below_drewN | apply below_drew1 | refine below_set ?_ GE106.out | refine below_set ?_ GE107.out | refine below_set ?_ GE108.out | refine below_set ?_ GE109.out) | exact HB.out)⟩
            · replace c37 := Bool.eq_false_iff.mpr c37
              subst c37
              have H1 : ((stamp_Less.f a0_0 a0_1 a0_2 a0_3 a0_4 a0_5).bind fun t114 => (if t114 = true then ((stamp_Less.f a0_3 a0_4 a0_5 a0_6 a0_7 a0_8).bind fun t115 => (if t115 = true then ((stamp_Less.f a0_0 a0_1 a0_2 a0_6 a0_7 a0_8).bind fun t116 => (some t116)) else (some true))) else (some true))) = some r := by rw [if_neg (show ¬ (false = true) by decide)] at H; exact H
              clear H
              have H := H1
              clear H1
              replace H := Option.bind_eq_some_iff.mp H
              obtain ⟨t114, A380, H⟩ := H
              replace H : (if t114 = true then ((stamp_Less.f a0_3 a0_4 a0_5 a0_6 a0_7 a0_8).bind fun t115 => (if t115 = true then ((stamp_Less.f a0_0 a0_1 a0_2 a0_6 a0_7 a0_8).bind fun t116 => (some t116)) else (some true))) else (some true)) = some r := H
              have A38 := Aside0.mk A380
              clear A380
              by_cases c39 : t114 = true
              · subst c39
                have H1 : ((stamp_Less.f a0_3 a0_4 a0_5 a0_6 a0_7 a0_8).bind fun t115 => (if t115 = true then ((stamp_Less.f a0_0 a0_1 a0_2 a0_6 a0_7 a0_8).bind fun t116 => (some t116)) else (some true))) = some r := by rw [if_pos rfl] at H; exact H
                clear H
                have H := H1
                clear H1
                replace H := Option.bind_eq_some_iff.mp H
                obtain ⟨t115, A400, H⟩ := H
                replace H : (if t115 = true then ((stamp_Less.f a0_0 a0_1 a0_2 a0_6 a0_7 a0_8).bind fun t116 => (some t116)) else (some true)) = some r := H
                have A40 := Aside0.mk A400
                clear A400
                by_cases c41 : t115 = true
                · subst c41
                  have H1 : ((stamp_Less.f a0_0 a0_1 a0_2 a0_6 a0_7 a0_8).bind fun t116 => (some t116)) = some r := by rw [if_pos rfl] at H; exact H
                  clear H
                  have H := H1
                  clear H1
                  replace H := Option.bind_eq_some_iff.mp H
                  obtain ⟨t116, A420, H⟩ := H
                  replace H : (some t116) = some r := H
                  have A42 := Aside0.mk A420
                  clear A420
                  obtain rfl := Option.some.inj H
                  have hnb43 := NB107_106.out
                  have hnc43 := NB106_107.out
                  have hnb44 := NB107_108.out
                  have hnc44 := NB108_107.out
                  have hnb45 := NB107_109.out
                  have hnc45 := NB109_107.out
                  have hcz46_0 : wc.cell? ⟨gb107, 0, none⟩ = some (.int .u64 a0_0) := (blk_cell BK107.out 0).trans rfl
                  have hcz46_1 : wc.cell? ⟨gb107, 1, none⟩ = some (.int .u32 a0_1) := (blk_cell BK107.out 1).trans rfl
                  have hcz46_2 : wc.cell? ⟨gb107, 2, none⟩ = some (.int .u32 a0_2) := (blk_cell BK107.out 2).trans rfl
                  have hfz46_0 := blk_frozen BK107.out 0
                  have hfz46_1 := blk_frozen BK107.out 1
                  have hfz46_2 := blk_frozen BK107.out 2
                  have hnb47 := NB108_106.out
                  have hnc47 := NB106_108.out
                  have hnb48 := NB108_109.out
                  have hnc48 := NB109_108.out
                  have hcz49_0 : wc.cell? ⟨gb108, 0, none⟩ = some (.int .u64 a0_3) := (blk_cell BK108.out 0).trans rfl
                  have hcz49_1 : wc.cell? ⟨gb108, 1, none⟩ = some (.int .u32 a0_4) := (blk_cell BK108.out 1).trans rfl
                  have hcz49_2 : wc.cell? ⟨gb108, 2, none⟩ = some (.int .u32 a0_5) := (blk_cell BK108.out 2).trans rfl
                  have hfz49_0 := blk_frozen BK108.out 0
                  have hfz49_1 := blk_frozen BK108.out 1
                  have hfz49_2 := blk_frozen BK108.out 2
                  go_wp2_with (first | ((with_reducible refine gate_callee (f := 16) rfl ?_); refine goesL_ (some 39) rfl rfl Try.func16 (by kernel_rfl) rfl #[.agg #[.int .u64 a0_0, .int .u32 a0_1, .int .u32 a0_2], .agg #[.int .u64 a0_3, .int .u32 a0_4, .int .u32 a0_5]] rfl (by (try simp only [List.map_toArray, List.map_cons, List.map_nil]); first | done | rfl | (simp only [List.length_drop, List.length_take]; rfl)) ?_; (with_reducible refine (stamp_Less.calls a0_0 a0_1 a0_2 a0_3 a0_4 a0_5 true _ A38.out).mono ?_); rintro e w50 ⟨rfl, hb⟩; refine ⟨_, rfl, ?_⟩; have n0_ := Aside0.mk (blk_below (g := gb106) (o := .cells #[.int .u64 a0_0, .int .u32 a0_1, .int .u32 a0_2, .int .u64 a0_3, .int .u32 a0_4, .int .u32 a0_5, .int .u64 a0_6, .int .u32 a0_7, .int .u32 a0_8] 39 (0, 0)) (by (with_reducible repeat (first | refine blk_drewN ?_ _ | refine blk_drew ?_ | refine blk_alloc ?_ _)); exact BK106.out) hb); have n1_ := Aside0.mk (blk_below (g := gb107) (o := .cells #[.int .u64 a0_0, .int .u32 a0_1, .int .u32 a0_2] 25 (0, 0)) (by (with_reducible repeat (first | refine blk_drewN ?_ _ | refine blk_drew ?_ | refine blk_alloc ?_ _)); exact BK107.out) hb); have n2_ := Aside0.mk (blk_below (g := gb108) (o := .cells #[.int .u64 a0_3, .int .u32 a0_4, .int .u32 a0_5] 25 (0, 0)) (by (with_reducible repeat (first | refine blk_drewN ?_ _ | refine blk_drew ?_ | refine blk_alloc ?_ _)); exact BK108.out) hb); have n3_ := Aside0.mk (blk_below (g := gb109) (o := .cells #[.int .u64 a0_6, .int .u32 a0_7, .int .u32 a0_8] 25 (0, 0)) (by (with_reducible repeat (first | refine blk_drewN ?_ _ | refine blk_drew ?_ | refine blk_alloc ?_ _)); exact BK109.out) hb); have n4_ := Aside0.mk (below_step (by repeat (first | (with_reducible first | exact HB.out | apply below_alloc | apply pw_below_drewN | apply below_drew1 | refine below_set ?_ GE106.out | refine below_set ?_ GE107.out | refine below_set ?_ GE108.out | refine below_set ?_ GE109.out) | exact HB.out)) hb); clear BK106; clear BK107; clear BK108; clear BK109; clear HB; have BK106 := n0_; have BK107 := n1_; have BK108 := n2_; have BK109 := n3_; have HB := n4_; clear n0_ n1_ n2_ n3_ n4_; (try clear hb); (try clear hb2); (try clear hk); (try clear hi); have hcz51_0 : w50.cell? ⟨gb108, 0, none⟩ = some (.int .u64 a0_3) := (blk_cell BK108.out 0).trans rfl; have hcz51_1 : w50.cell? ⟨gb108, 1, none⟩ = some (.int .u32 a0_4) := (blk_cell BK108.out 1).trans rfl; have hcz51_2 : w50.cell? ⟨gb108, 2, none⟩ = some (.int .u32 a0_5) := (blk_cell BK108.out 2).trans rfl; have hfz51_0 := blk_frozen BK108.out 0; have hfz51_1 := blk_frozen BK108.out 1; have hfz51_2 := blk_frozen BK108.out 2; have hnb52 := NB109_106.out; have hnc52 := NB106_109.out; have hcz53_0 : w50.cell? ⟨gb109, 0, none⟩ = some (.int .u64 a0_6) := (blk_cell BK109.out 0).trans rfl; have hcz53_1 : w50.cell? ⟨gb109, 1, none⟩ = some (.int .u32 a0_7) := (blk_cell BK109.out 1).trans rfl; have hcz53_2 : w50.cell? ⟨gb109, 2, none⟩ = some (.int .u32 a0_8) := (blk_cell BK109.out 2).trans rfl; have hfz53_0 := blk_frozen BK109.out 0; have hfz53_1 := blk_frozen BK109.out 1; have hfz53_2 := blk_frozen BK109.out 2) | (go_at_call 16; (with_reducible refine (stamp_Less.calls a0_3 a0_4 a0_5 a0_6 a0_7 a0_8 true _ A40.out).mono ?_); rintro e w54 ⟨rfl, hb⟩; have n0_ := Aside0.mk (blk_below (g := gb106) (o := .cells #[.int .u64 a0_0, .int .u32 a0_1, .int .u32 a0_2, .int .u64 a0_3, .int .u32 a0_4, .int .u32 a0_5, .int .u64 a0_6, .int .u32 a0_7, .int .u32 a0_8] 39 (0, 0)) (by (with_reducible repeat (first | refine blk_drewN ?_ _ | refine blk_drew ?_ | refine blk_alloc ?_ _)); exact BK106.out) hb); have n1_ := Aside0.mk (blk_below (g := gb107) (o := .cells #[.int .u64 a0_0, .int .u32 a0_1, .int .u32 a0_2] 25 (0, 0)) (by (with_reducible repeat (first | refine blk_drewN ?_ _ | refine blk_drew ?_ | refine blk_alloc ?_ _)); exact BK107.out) hb); have n2_ := Aside0.mk (blk_below (g := gb108) (o := .cells #[.int .u64 a0_3, .int .u32 a0_4, .int .u32 a0_5] 25 (0, 0)) (by (with_reducible repeat (first | refine blk_drewN ?_ _ | refine blk_drew ?_ | refine blk_alloc ?_ _)); exact BK108.out) hb); have n3_ := Aside0.mk (blk_below (g := gb109) (o := .cells #[.int .u64 a0_6, .int .u32 a0_7, .int .u32 a0_8] 25 (0, 0)) (by (with_reducible repeat (first | refine blk_drewN ?_ _ | refine blk_drew ?_ | refine blk_alloc ?_ _)); exact BK109.out) hb); have n4_ := Aside0.mk (below_step (by repeat (first | (with_reducible first | exact HB.out | apply below_alloc | apply pw_below_drewN | apply below_drew1 | refine below_set ?_ GE106.out | refine below_set ?_ GE107.out | refine below_set ?_ GE108.out | refine below_set ?_ GE109.out) | exact HB.out)) hb); clear BK106; clear BK107; clear BK108; clear BK109; clear HB; have BK106 := n0_; have BK107 := n1_; have BK108 := n2_; have BK109 := n3_; have HB := n4_; clear n0_ n1_ n2_ n3_ n4_; (try clear hb); (try clear hb2); (try clear hk); (try clear hi); have hcz55_0 : w54.cell? ⟨gb107, 0, none⟩ = some (.int .u64 a0_0) := (blk_cell BK107.out 0).trans rfl; have hcz55_1 : w54.cell? ⟨gb107, 1, none⟩ = some (.int .u32 a0_1) := (blk_cell BK107.out 1).trans rfl; have hcz55_2 : w54.cell? ⟨gb107, 2, none⟩ = some (.int .u32 a0_2) := (blk_cell BK107.out 2).trans rfl; have hfz55_0 := blk_frozen BK107.out 0; have hfz55_1 := blk_frozen BK107.out 1; have hfz55_2 := blk_frozen BK107.out 2; have hcz56_0 : w54.cell? ⟨gb109, 0, none⟩ = some (.int .u64 a0_6) := (blk_cell BK109.out 0).trans rfl; have hcz56_1 : w54.cell? ⟨gb109, 1, none⟩ = some (.int .u32 a0_7) := (blk_cell BK109.out 1).trans rfl; have hcz56_2 : w54.cell? ⟨gb109, 2, none⟩ = some (.int .u32 a0_8) := (blk_cell BK109.out 2).trans rfl; have hfz56_0 := blk_frozen BK109.out 0; have hfz56_1 := blk_frozen BK109.out 1; have hfz56_2 := blk_frozen BK109.out 2) | (go_at_call 16; (with_reducible refine (stamp_Less.calls a0_0 a0_1 a0_2 a0_6 a0_7 a0_8 t116 _ A42.out).mono ?_); rintro e w57 ⟨rfl, hb⟩; have n0_ := Aside0.mk (blk_below (g := gb106) (o := .cells #[.int .u64 a0_0, .int .u32 a0_1, .int .u32 a0_2, .int .u64 a0_3, .int .u32 a0_4, .int .u32 a0_5, .int .u64 a0_6, .int .u32 a0_7, .int .u32 a0_8] 39 (0, 0)) (by (with_reducible repeat (first | refine blk_drewN ?_ _ | refine blk_drew ?_ | refine blk_alloc ?_ _)); exact BK106.out) hb); have n1_ := Aside0.mk (blk_below (g := gb107) (o := .cells #[.int .u64 a0_0, .int .u32 a0_1, .int .u32 a0_2] 25 (0, 0)) (by (with_reducible repeat (first | refine blk_drewN ?_ _ | refine blk_drew ?_ | refine blk_alloc ?_ _)); exact BK107.out) hb); have n2_ := Aside0.mk (blk_below (g := gb108) (o := .cells #[.int .u64 a0_3, .int .u32 a0_4, .int .u32 a0_5] 25 (0, 0)) (by (with_reducible repeat (first | refine blk_drewN ?_ _ | refine blk_drew ?_ | refine blk_alloc ?_ _)); exact BK108.out) hb); have n3_ := Aside0.mk (blk_below (g := gb109) (o := .cells #[.int .u64 a0_6, .int .u32 a0_7, .int .u32 a0_8] 25 (0, 0)) (by (with_reducible repeat (first | refine blk_drewN ?_ _ | refine blk_drew ?_ | refine blk_alloc ?_ _)); exact BK109.out) hb); have n4_ := Aside0.mk (below_step (by repeat (first | (with_reducible first | exact HB.out | apply below_alloc | apply pw_below_drewN | apply below_drew1 | refine below_set ?_ GE106.out | refine below_set ?_ GE107.out | refine below_set ?_ GE108.out | refine below_set ?_ GE109.out) | exact HB.out)) hb); clear BK106; clear BK107; clear BK108; clear BK109; clear HB; have BK106 := n0_; have BK107 := n1_; have BK108 := n2_; have BK109 := n3_; have HB := n4_; clear n0_ n1_ n2_ n3_ n4_; (try clear hb); (try clear hb2); (try clear hk); (try clear hi)))
                  go_ret
                  exact ⟨by first | rfl | (simp [errW_none, errW_some] <;> rfl) | (simp [*, errW_none, errW_some] <;> rfl), by repeat (first | (with_reducible first | exact HB.out | apply below_alloc | apply pw_below_drewN | apply below_drew1 | refine below_set ?_ GE106.out | refine below_set ?_ GE107.out | refine below_set ?_ GE108.out | refine below_set ?_ GE109.out) | exact HB.out)⟩
                · replace c41 := Bool.eq_false_iff.mpr c41
                  subst c41
                  have H1 : (some true) = some r := by rw [if_neg (show ¬ (false = true) by decide)] at H; exact H
                  clear H
                  have H := H1
                  clear H1
                  obtain rfl := Option.some.inj H
                  have hnb58 := NB107_106.out
                  have hnc58 := NB106_107.out
                  have hnb59 := NB107_108.out
                  have hnc59 := NB108_107.out
                  have hnb60 := NB107_109.out
                  have hnc60 := NB109_107.out
                  have hcz61_0 : wc.cell? ⟨gb107, 0, none⟩ = some (.int .u64 a0_0) := (blk_cell BK107.out 0).trans rfl
                  have hcz61_1 : wc.cell? ⟨gb107, 1, none⟩ = some (.int .u32 a0_1) := (blk_cell BK107.out 1).trans rfl
                  have hcz61_2 : wc.cell? ⟨gb107, 2, none⟩ = some (.int .u32 a0_2) := (blk_cell BK107.out 2).trans rfl
                  have hfz61_0 := blk_frozen BK107.out 0
                  have hfz61_1 := blk_frozen BK107.out 1
                  have hfz61_2 := blk_frozen BK107.out 2
                  have hnb62 := NB108_106.out
                  have hnc62 := NB106_108.out
                  have hnb63 := NB108_109.out
                  have hnc63 := NB109_108.out
                  have hcz64_0 : wc.cell? ⟨gb108, 0, none⟩ = some (.int .u64 a0_3) := (blk_cell BK108.out 0).trans rfl
                  have hcz64_1 : wc.cell? ⟨gb108, 1, none⟩ = some (.int .u32 a0_4) := (blk_cell BK108.out 1).trans rfl
                  have hcz64_2 : wc.cell? ⟨gb108, 2, none⟩ = some (.int .u32 a0_5) := (blk_cell BK108.out 2).trans rfl
                  have hfz64_0 := blk_frozen BK108.out 0
                  have hfz64_1 := blk_frozen BK108.out 1
                  have hfz64_2 := blk_frozen BK108.out 2
                  go_wp2_with (first | ((with_reducible refine gate_callee (f := 16) rfl ?_); refine goesL_ (some 39) rfl rfl Try.func16 (by kernel_rfl) rfl #[.agg #[.int .u64 a0_0, .int .u32 a0_1, .int .u32 a0_2], .agg #[.int .u64 a0_3, .int .u32 a0_4, .int .u32 a0_5]] rfl (by (try simp only [List.map_toArray, List.map_cons, List.map_nil]); first | done | rfl | (simp only [List.length_drop, List.length_take]; rfl)) ?_; (with_reducible refine (stamp_Less.calls a0_0 a0_1 a0_2 a0_3 a0_4 a0_5 true _ A38.out).mono ?_); rintro e w65 ⟨rfl, hb⟩; refine ⟨_, rfl, ?_⟩; have n0_ := Aside0.mk (blk_below (g := gb106) (o := .cells #[.int .u64 a0_0, .int .u32 a0_1, .int .u32 a0_2, .int .u64 a0_3, .int .u32 a0_4, .int .u32 a0_5, .int .u64 a0_6, .int .u32 a0_7, .int .u32 a0_8] 39 (0, 0)) (by (with_reducible repeat (first | refine blk_drewN ?_ _ | refine blk_drew ?_ | refine blk_alloc ?_ _)); exact BK106.out) hb); have n1_ := Aside0.mk (blk_below (g := gb107) (o := .cells #[.int .u64 a0_0, .int .u32 a0_1, .int .u32 a0_2] 25 (0, 0)) (by (with_reducible repeat (first | refine blk_drewN ?_ _ | refine blk_drew ?_ | refine blk_alloc ?_ _)); exact BK107.out) hb); have n2_ := Aside0.mk (blk_below (g := gb108) (o := .cells #[.int .u64 a0_3, .int .u32 a0_4, .int .u32 a0_5] 25 (0, 0)) (by (with_reducible repeat (first | refine blk_drewN ?_ _ | refine blk_drew ?_ | refine blk_alloc ?_ _)); exact BK108.out) hb); have n3_ := Aside0.mk (blk_below (g := gb109) (o := .cells #[.int .u64 a0_6, .int .u32 a0_7, .int .u32 a0_8] 25 (0, 0)) (by (with_reducible repeat (first | refine blk_drewN ?_ _ | refine blk_drew ?_ | refine blk_alloc ?_ _)); exact BK109.out) hb); have n4_ := Aside0.mk (below_step (by repeat (first | (with_reducible first | exact HB.out | apply below_alloc | apply pw_below_drewN | apply below_drew1 | refine below_set ?_ GE106.out | refine below_set ?_ GE107.out | refine below_set ?_ GE108.out | refine below_set ?_ GE109.out) | exact HB.out)) hb); clear BK106; clear BK107; clear BK108; clear BK109; clear HB; have BK106 := n0_; have BK107 := n1_; have BK108 := n2_; have BK109 := n3_; have HB := n4_; clear n0_ n1_ n2_ n3_ n4_; (try clear hb); (try clear hb2); (try clear hk); (try clear hi); have hcz66_0 : w65.cell? ⟨gb108, 0, none⟩ = some (.int .u64 a0_3) := (blk_cell BK108.out 0).trans rfl; have hcz66_1 : w65.cell? ⟨gb108, 1, none⟩ = some (.int .u32 a0_4) := (blk_cell BK108.out 1).trans rfl; have hcz66_2 : w65.cell? ⟨gb108, 2, none⟩ = some (.int .u32 a0_5) := (blk_cell BK108.out 2).trans rfl; have hfz66_0 := blk_frozen BK108.out 0; have hfz66_1 := blk_frozen BK108.out 1; have hfz66_2 := blk_frozen BK108.out 2; have hnb67 := NB109_106.out; have hnc67 := NB106_109.out; have hcz68_0 : w65.cell? ⟨gb109, 0, none⟩ = some (.int .u64 a0_6) := (blk_cell BK109.out 0).trans rfl; have hcz68_1 : w65.cell? ⟨gb109, 1, none⟩ = some (.int .u32 a0_7) := (blk_cell BK109.out 1).trans rfl; have hcz68_2 : w65.cell? ⟨gb109, 2, none⟩ = some (.int .u32 a0_8) := (blk_cell BK109.out 2).trans rfl; have hfz68_0 := blk_frozen BK109.out 0; have hfz68_1 := blk_frozen BK109.out 1; have hfz68_2 := blk_frozen BK109.out 2) | (go_at_call 16; (with_reducible refine (stamp_Less.calls a0_3 a0_4 a0_5 a0_6 a0_7 a0_8 false _ A40.out).mono ?_); rintro e w69 ⟨rfl, hb⟩; have n0_ := Aside0.mk (blk_below (g := gb106) (o := .cells #[.int .u64 a0_0, .int .u32 a0_1, .int .u32 a0_2, .int .u64 a0_3, .int .u32 a0_4, .int .u32 a0_5, .int .u64 a0_6, .int .u32 a0_7, .int .u32 a0_8] 39 (0, 0)) (by (with_reducible repeat (first | refine blk_drewN ?_ _ | refine blk_drew ?_ | refine blk_alloc ?_ _)); exact BK106.out) hb); have n1_ := Aside0.mk (blk_below (g := gb107) (o := .cells #[.int .u64 a0_0, .int .u32 a0_1, .int .u32 a0_2] 25 (0, 0)) (by (with_reducible repeat (first | refine blk_drewN ?_ _ | refine blk_drew ?_ | refine blk_alloc ?_ _)); exact BK107.out) hb); have n2_ := Aside0.mk (blk_below (g := gb108) (o := .cells #[.int .u64 a0_3, .int .u32 a0_4, .int .u32 a0_5] 25 (0, 0)) (by (with_reducible repeat (first | refine blk_drewN ?_ _ | refine blk_drew ?_ | refine blk_alloc ?_ _)); exact BK108.out) hb); have n3_ := Aside0.mk (blk_below (g := gb109) (o := .cells #[.int .u64 a0_6, .int .u32 a0_7, .int .u32 a0_8] 25 (0, 0)) (by (with_reducible repeat (first | refine blk_drewN ?_ _ | refine blk_drew ?_ | refine blk_alloc ?_ _)); exact BK109.out) hb); have n4_ := Aside0.mk (below_step (by repeat (first | (with_reducible first | exact HB.out | apply below_alloc | apply pw_below_drewN | apply below_drew1 | refine below_set ?_ GE106.out | refine below_set ?_ GE107.out | refine below_set ?_ GE108.out | refine below_set ?_ GE109.out) | exact HB.out)) hb); clear BK106; clear BK107; clear BK108; clear BK109; clear HB; have BK106 := n0_; have BK107 := n1_; have BK108 := n2_; have BK109 := n3_; have HB := n4_; clear n0_ n1_ n2_ n3_ n4_; (try clear hb); (try clear hb2); (try clear hk); (try clear hi)))
                  go_ret
                  exact ⟨by first | rfl | (simp [errW_none, errW_some] <;> rfl) | (simp [*, errW_none, errW_some] <;> rfl), by repeat (first | (with_reducible first | exact HB.out | apply below_alloc | apply pw_below_drewN | apply below_drew1 | refine below_set ?_ GE106.out | refine below_set ?_ GE107.out | refine below_set ?_ GE108.out | refine below_set ?_ GE109.out) | exact HB.out)⟩
              · replace c39 := Bool.eq_false_iff.mpr c39
                subst c39
                have H1 : (some true) = some r := by rw [if_neg (show ¬ (false = true) by decide)] at H; exact H
                clear H
                have H := H1
                clear H1
                obtain rfl := Option.some.inj H
                have hnb70 := NB107_106.out
                have hnc70 := NB106_107.out
                have hnb71 := NB107_108.out
                have hnc71 := NB108_107.out
                have hnb72 := NB107_109.out
                have hnc72 := NB109_107.out
                have hcz73_0 : wc.cell? ⟨gb107, 0, none⟩ = some (.int .u64 a0_0) := (blk_cell BK107.out 0).trans rfl
                have hcz73_1 : wc.cell? ⟨gb107, 1, none⟩ = some (.int .u32 a0_1) := (blk_cell BK107.out 1).trans rfl
                have hcz73_2 : wc.cell? ⟨gb107, 2, none⟩ = some (.int .u32 a0_2) := (blk_cell BK107.out 2).trans rfl
                have hfz73_0 := blk_frozen BK107.out 0
                have hfz73_1 := blk_frozen BK107.out 1
                have hfz73_2 := blk_frozen BK107.out 2
                have hnb74 := NB108_106.out
                have hnc74 := NB106_108.out
                have hnb75 := NB108_109.out
                have hnc75 := NB109_108.out
                have hcz76_0 : wc.cell? ⟨gb108, 0, none⟩ = some (.int .u64 a0_3) := (blk_cell BK108.out 0).trans rfl
                have hcz76_1 : wc.cell? ⟨gb108, 1, none⟩ = some (.int .u32 a0_4) := (blk_cell BK108.out 1).trans rfl
                have hcz76_2 : wc.cell? ⟨gb108, 2, none⟩ = some (.int .u32 a0_5) := (blk_cell BK108.out 2).trans rfl
                have hfz76_0 := blk_frozen BK108.out 0
                have hfz76_1 := blk_frozen BK108.out 1
                have hfz76_2 := blk_frozen BK108.out 2
                go_wp2_with (first | ((with_reducible refine gate_callee (f := 16) rfl ?_); refine goesL_ (some 39) rfl rfl Try.func16 (by kernel_rfl) rfl #[.agg #[.int .u64 a0_0, .int .u32 a0_1, .int .u32 a0_2], .agg #[.int .u64 a0_3, .int .u32 a0_4, .int .u32 a0_5]] rfl (by (try simp only [List.map_toArray, List.map_cons, List.map_nil]); first | done | rfl | (simp only [List.length_drop, List.length_take]; rfl)) ?_; (with_reducible refine (stamp_Less.calls a0_0 a0_1 a0_2 a0_3 a0_4 a0_5 false _ A38.out).mono ?_); rintro e w77 ⟨rfl, hb⟩; refine ⟨_, rfl, ?_⟩; have n0_ := Aside0.mk (blk_below (g := gb106) (o := .cells #[.int .u64 a0_0, .int .u32 a0_1, .int .u32 a0_2, .int .u64 a0_3, .int .u32 a0_4, .int .u32 a0_5, .int .u64 a0_6, .int .u32 a0_7, .int .u32 a0_8] 39 (0, 0)) (by (with_reducible repeat (first | refine blk_drewN ?_ _ | refine blk_drew ?_ | refine blk_alloc ?_ _)); exact BK106.out) hb); have n1_ := Aside0.mk (blk_below (g := gb107) (o := .cells #[.int .u64 a0_0, .int .u32 a0_1, .int .u32 a0_2] 25 (0, 0)) (by (with_reducible repeat (first | refine blk_drewN ?_ _ | refine blk_drew ?_ | refine blk_alloc ?_ _)); exact BK107.out) hb); have n2_ := Aside0.mk (blk_below (g := gb108) (o := .cells #[.int .u64 a0_3, .int .u32 a0_4, .int .u32 a0_5] 25 (0, 0)) (by (with_reducible repeat (first | refine blk_drewN ?_ _ | refine blk_drew ?_ | refine blk_alloc ?_ _)); exact BK108.out) hb); have n3_ := Aside0.mk (blk_below (g := gb109) (o := .cells #[.int .u64 a0_6, .int .u32 a0_7, .int .u32 a0_8] 25 (0, 0)) (by (with_reducible repeat (first | refine blk_drewN ?_ _ | refine blk_drew ?_ | refine blk_alloc ?_ _)); exact BK109.out) hb); have n4_ := Aside0.mk (below_step (by repeat (first | (with_reducible first | exact HB.out | apply below_alloc | apply pw_below_drewN | apply below_drew1 | refine below_set ?_ GE106.out | refine below_set ?_ GE107.out | refine below_set ?_ GE108.out | refine below_set ?_ GE109.out) | exact HB.out)) hb); clear BK106; clear BK107; clear BK108; clear BK109; clear HB; have BK106 := n0_; have BK107 := n1_; have BK108 := n2_; have BK109 := n3_; have HB := n4_; clear n0_ n1_ n2_ n3_ n4_; (try clear hb); (try clear hb2); (try clear hk); (try clear hi)))
                go_ret
                exact ⟨by first | rfl | (simp [errW_none, errW_some] <;> rfl) | (simp [*, errW_none, errW_some] <;> rfl), by repeat (first | (with_reducible first | exact HB.out | apply below_alloc | apply pw_below_drewN | apply below_drew1 | refine below_set ?_ GE106.out | refine below_set ?_ GE107.out | refine below_set ?_ GE108.out | refine below_set ?_ GE109.out) | exact HB.out)⟩

end Go.Proofs.Ytljkipkcabjcaaa.PStampTotal
