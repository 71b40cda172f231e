/-
  The walk of the document's Parse.
-/
import Derived.Test.YtljkipkcabjcaaaDoorParse
import Derived.Test.YtljkipkcabjcaaaDoorRefLaw
import Derived.Lib.Hide
namespace Go.Proofs.YtljkipkcabjcaaaDoor.PStampParses
open Go.RowKit Go.Proofs.YtljkipkcabjcaaaDoorW.PrintWords Go.Proofs.YtljkipkcabjcaaaDoorW.PrintLast Go.Proofs.YtljkipkcabjcaaaDoorW.PrintMore
set_option linter.unusedVariables false
set_option linter.unusedSimpArgs false
theorem ref_parse (s : ByteArray) (w : World) : Calls Tryd.prog 8 #[.string s] w fun e w' => Told s e ∧ Below w.heap.size w w' := by
  have hu25 := Tryd.underlying25
  by_cases h42 : 42 < s.size
  · have h42' : (42 : Int) < s.size := by omega
    have HN := Lib.hid (show ∀ a b c, ¬ IsText s a b c from fun a b c h => by have := isText_size h; omega)
    go_enter Tryd.func8, Tryd.ntmps8
    go_wp2_with fail
    refine bodyPost_ret (results_ct rfl _ _ w.heap.size 25 #[.int .u64 0, .int .u32 0, .int .u32 0] (0, 0) _ rfl (blk_new w _) Tryd.underlying25 rfl (by kernel_rfl)) rfl ?_
    exact ⟨.inr ⟨HN.out, rfl⟩, below_alloc (Below.refl _ _) _⟩
  · have h42' : ¬ (42 : Int) < s.size := by omega
    have HR0 := blk_alloc (blk_new w (.cells #[.int .u64 0, .int .u32 0, .int .u32 0] 25)) (.cells #[.int .u64 0, .int .u64 0, .int .u64 0] 38)
    have HV0 := blk_new2 w (.cells #[.int .u64 0, .int .u32 0, .int .u32 0] 25) (.cells #[.int .u64 0, .int .u64 0, .int .u64 0] 38)
    have HB0 : Below w.heap.size w ((w.alloc (.cells #[.int .u64 0, .int .u32 0, .int .u32 0] 25)).alloc (.cells #[.int .u64 0, .int .u64 0, .int .u64 0] 38)) := below_alloc (below_alloc (Below.refl _ _) _) _
    have CT := Lib.hid ref_text
    go_enter Tryd.func8, Tryd.ntmps8
    go_wp2_with fail
    go_loopw [5, 6] (fun kv iv wr => ∃ (j : Nat) (x : Sum) (kk : Int), j ≤ s.size ∧ kv = .int .i64 kk ∧ iv = .int .i64 j ∧ Hid (kk = x.k ∧ x.k ≤ 2) ∧ Hid (sums (s.data.toList.take j) = x) ∧ Hid (x.a < 18446744073709551616 ∧ x.b < 18446744073709551616 ∧ x.c < 18446744073709551616) ∧
      wr.heap[w.heap.size]? = some (.cells #[.int .u64 0, .int .u32 0, .int .u32 0] 25 (0, 0)) ∧ wr.heap[w.heap.size + 1]? = some (.cells #[.int .u64 (x.a : Int), .int .u64 (x.b : Int), .int .u64 (x.c : Int)] 38 (0, 0)) ∧ Below w.heap.size w wr) (fun _ iv _ => s.size - (intOf iv).toNat)
    case atStart => exact ⟨0, ⟨0, 0, 0, 0⟩, 0, by omega, rfl, rfl, Lib.hid ⟨rfl, by decide⟩, Lib.hid rfl, Lib.hid ⟨by decide, by decide, by decide⟩, HR0, HV0, HB0⟩
    case round =>
      clear HR0 HV0 HB0
      obtain ⟨j, x, kk, hj, rfl, rfl, hk2, HX, HL, HR, HV, HB⟩ := hrel
      by_cases hjl : j < s.size
      · have hj0 : (0 : Int) ≤ j := by omega
        have hj1 : (j : Int) < s.size := by omega
        have hjd : j < s.data.toList.length := by rw [data_length]; exact hjl
        obtain ⟨ch, hch⟩ : ∃ ch, ch = s.data.toList[j] := ⟨_, rfl⟩
        have hbj : bt s j = (ch.toNat : Int) := by rw [hch]; exact bt_list s j hjd
        have hxj : ∀ h : j < s.size, ((s[j]'h).toNat : Int) = (ch.toNat : Int) := fun h => (bt_at s (j : Int) h).trans hbj
        have hsn : Hid (sums (s.data.toList.take (j + 1)) = stepS x ch) := Lib.hid (by rw [List.take_succ_eq_append_getElem hjd, sums_snoc, HX.out, hch])
        clear hch hbj hjd
        by_cases hdot : ch = 46
        · have hd1 : ((ch.toNat : Int) == 46) = true := by rw [hdot]; rfl
          have hst : Hid (stepS x ch = ⟨x.k + 1, x.a, x.b, x.c⟩) := Lib.hid (by unfold stepS; rw [if_pos hdot])
          clear hdot
          by_cases hk3 : kk = 2
          · have HN := Lib.hid (fun a b c => three_points (s := s) (j := j + 1) (by rw [hsn.out, hst.out]; show 2 < x.k + 1; have := hk2.out.1; omega) a b c)
            subst hk3
            have k0 := (blk_cell HR 0).trans rfl
            have k1 := (blk_cell HR 1).trans rfl
            have k2 := (blk_cell HR 2).trans rfl
            have f0 := blk_frozen HR 0
            have f1 := blk_frozen HR 1
            have f2 := blk_frozen HR 2
            have hset : Hid (∀ x y z : Value, _) := Lib.hid fun x y z => blk_put (cs' := #[x, y, z]) (blk_set (blk_set HR 0 x) 1 y) 2 z rfl
            clear HV
            go_wp2_with fail
            refine bodyPost_ret (results_ct rfl _ _ w.heap.size 25 #[.int .u64 0, .int .u32 0, .int .u32 0] (0, 0) _ rfl (hset.out _ _ _) Tryd.underlying25 rfl (by kernel_rfl)) rfl ?_
            exact ⟨.inr ⟨HN.out, rfl⟩, ((HB.setCell (Nat.le_refl _) _).setCell (Nat.le_refl _) _).setCell (Nat.le_refl _) _⟩
          · have HK3 := Lib.hid hk3
            rcases (show kk = 0 ∨ kk = 1 by have := hk2.out; omega) with h0 | h0
            · subst h0
              clear hk3
              go_wp2_with fail
              exact ⟨⟨j + 1, ⟨x.k + 1, x.a, x.b, x.c⟩, 1, by omega, rfl, by go_num, Lib.hid ⟨(by show (1 : Int) = ((x.k + 1 : Nat) : Int); have := hk2.out; omega), (by show x.k + 1 ≤ 2; have := hk2.out; omega)⟩, Lib.hid (by rw [hsn.out, hst.out]), HL, HR, HV, HB⟩, by simp [intOf]; omega⟩
            · subst h0
              clear hk3
              go_wp2_with fail
              exact ⟨⟨j + 1, ⟨x.k + 1, x.a, x.b, x.c⟩, 2, by omega, rfl, by go_num, Lib.hid ⟨(by show (2 : Int) = ((x.k + 1 : Nat) : Int); have := hk2.out; omega), (by show x.k + 1 ≤ 2; have := hk2.out; omega)⟩, Lib.hid (by rw [hsn.out, hst.out]), HL, HR, HV, HB⟩, by simp [intOf]; omega⟩
        · have hd1 : ((ch.toNat : Int) == 46) = false := beq_eq_false_iff_ne.2 (fun h => hdot (UInt8.toNat_inj.1 (by have h46 : (46 : UInt8).toNat = 46 := rfl; omega)))
          have HDOT := Lib.hid hdot
          clear hdot
          rcases (show kk = 0 ∨ kk = 1 ∨ kk = 2 by have := hk2.out; omega) with h0 | h0 | h0
          · subst h0
            go_wp2_with fail
            refine start_ (n := 13) (S := fun w' => w'.heap[w.heap.size + 1]? = some (.cells #[.int .u64 (x.a : Int), .int .u64 (x.b : Int), .int .u64 (x.c : Int)] 38 (0, 0))) (ds := [12]) #[false, false, false, false, false, false, false, false, false, false, false, false, false] (by kernel_rfl) rfl rfl (blk_drew HV) (fun hHeld => ?_)
            refine pure_ (i := 0) (N := some 28) (v := ?_) (a' := ?_) #[true, false, false, false, false, false, false, false, false, false, false, false, false] rfl rfl (by kernel_rfl) (fun _ _ _ h => h) (Or.inl ⟨by rfl, ?_⟩) ?_ ?_
            rotate_left
            · intro w'
              go_simp
              with_reducible rfl
            rotate_left
            · simp only [Act.put, List.setIfInBounds_toArray, List.set_cons_zero, List.set_cons_succ]
              rfl
            refine pure_ (i := 1) (N := some 29) (v := ?_) (a' := ?_) #[true, true, false, false, false, false, false, false, false, false, false, false, false] rfl rfl (by kernel_rfl) (fun _ _ _ h => h) (Or.inl ⟨by rfl, ?_⟩) ?_ ?_
            rotate_left
            · intro w'
              go_simp
              with_reducible rfl
            rotate_left
            · simp only [Act.put, List.setIfInBounds_toArray, List.set_cons_zero, List.set_cons_succ]
              rfl
            refine pure_ (i := 2) (N := some 30) (v := ?_) (a' := ?_) #[true, true, true, false, false, false, false, false, false, false, false, false, false] rfl rfl (by kernel_rfl) (fun _ _ _ h => h) (Or.inl ⟨by rfl, ?_⟩) ?_ ?_
            rotate_left
            · intro w'
              go_simp
              with_reducible rfl
            rotate_left
            · simp only [Act.put, List.setIfInBounds_toArray, List.set_cons_zero, List.set_cons_succ]
              rfl
            refine take_ (i := 3) (N := some 31) (v := ?_) (a' := ?_) #[true, true, true, true, false, false, false, false, false, false, false, false, false] rfl rfl (by kernel_rfl) (fun _ _ _ h => h) (Or.inl ⟨by rfl, ?_⟩) hHeld ?_ ?_
            rotate_left
            · rintro w' s0
              have k0 := (blk_cell s0 0).trans rfl
              have k1 := (blk_cell s0 1).trans rfl
              have k2 := (blk_cell s0 2).trans rfl
              go_simp
              with_reducible rfl
            rotate_left
            · simp only [Act.put, List.setIfInBounds_toArray, List.set_cons_zero, List.set_cons_succ]
              rfl
            refine pure_ (i := 4) (N := some 32) (v := ?_) (a' := ?_) #[true, true, true, true, true, false, false, false, false, false, false, false, false] rfl rfl (by kernel_rfl) (fun _ _ _ h => h) (Or.inl ⟨by rfl, ?_⟩) ?_ ?_
            rotate_left
            · intro w'
              go_simp
              with_reducible rfl
            rotate_left
            · simp only [Act.put, List.setIfInBounds_toArray, List.set_cons_zero, List.set_cons_succ]
              rfl
            refine pure_ (i := 5) (N := some 33) (v := ?_) (a' := ?_) #[true, true, true, true, true, true, false, false, false, false, false, false, false] rfl rfl (by kernel_rfl) (fun _ _ _ h => h) (Or.inl ⟨by rfl, ?_⟩) ?_ ?_
            rotate_left
            · intro w'
              go_simp
              with_reducible rfl
            rotate_left
            · simp only [Act.put, List.setIfInBounds_toArray, List.set_cons_zero, List.set_cons_succ]
              rfl
            refine pure_ (i := 6) (N := some 34) (v := ?_) (a' := ?_) #[true, true, true, true, true, true, true, false, false, false, false, false, false] rfl rfl (by kernel_rfl) (fun _ _ _ h => h) (Or.inl ⟨by rfl, ?_⟩) ?_ ?_
            rotate_left
            · intro w'
              go_simp
              with_reducible rfl
            rotate_left
            · simp only [Act.put, List.setIfInBounds_toArray, List.set_cons_zero, List.set_cons_succ]
              rfl
            refine pure_ (i := 7) (N := some 35) (v := ?_) (a' := ?_) #[true, true, true, true, true, true, true, true, false, false, false, false, false] rfl rfl (by kernel_rfl) (fun _ _ _ h => h) (Or.inl ⟨by rfl, ?_⟩) ?_ ?_
            rotate_left
            · intro w'
              go_simp
              with_reducible rfl
            rotate_left
            · simp only [Act.put, List.setIfInBounds_toArray, List.set_cons_zero, List.set_cons_succ]
              rfl
            refine pure_ (i := 8) (N := some 36) (v := ?_) (a' := ?_) #[true, true, true, true, true, true, true, true, true, false, false, false, false] rfl rfl (by kernel_rfl) (fun _ _ _ h => h) (Or.inl ⟨by rfl, ?_⟩) ?_ ?_
            rotate_left
            · intro w'
              go_simp
              with_reducible rfl
            rotate_left
            · simp only [Act.put, List.setIfInBounds_toArray, List.set_cons_zero, List.set_cons_succ]
              rfl
            refine pure_ (i := 9) (N := some 37) (v := ?_) (a' := ?_) #[true, true, true, true, true, true, true, true, true, true, false, false, false] rfl rfl (by kernel_rfl) (fun _ _ _ h => h) (Or.inl ⟨by rfl, ?_⟩) ?_ ?_
            rotate_left
            · intro w'
              go_simp
              with_reducible rfl
            rotate_left
            · simp only [Act.put, List.setIfInBounds_toArray, List.set_cons_zero, List.set_cons_succ]
              rfl
            refine pure_ (i := 10) (N := some 38) (v := ?_) (a' := ?_) #[true, true, true, true, true, true, true, true, true, true, true, false, false] rfl rfl (by kernel_rfl) (fun _ _ _ h => h) (Or.inl ⟨by rfl, ?_⟩) ?_ ?_
            rotate_left
            · intro w'
              go_simp
              with_reducible rfl
            rotate_left
            · simp only [Act.put, List.setIfInBounds_toArray, List.set_cons_zero, List.set_cons_succ]
              rfl
            refine pure_ (i := 11) (N := some 39) (v := ?_) (a' := ?_) #[true, true, true, true, true, true, true, true, true, true, true, true, false] rfl rfl (by kernel_rfl) (fun _ _ _ h => h) (Or.inl ⟨by rfl, ?_⟩) ?_ ?_
            rotate_left
            · intro w'
              go_simp
              with_reducible rfl
            rotate_left
            · simp only [Act.put, List.setIfInBounds_toArray, List.set_cons_zero, List.set_cons_succ]
              rfl
            refine last_ (i := 12) (N := none) #[true, true, true, true, true, true, true, true, true, true, true, true, true] rfl rfl (by kernel_rfl) (by decide) (fun K hK => ?_)
            have k0 := (blk_cell hHeld 0).trans rfl
            have f0 := blk_frozen hHeld 0
            have k1 := (blk_cell hHeld 1).trans rfl
            have f1 := blk_frozen hHeld 1
            have k2 := (blk_cell hHeld 2).trans rfl
            have f2 := blk_frozen hHeld 2
            have HV1 := blk_put (cs' := #[.int .u64 (stp x.a ch : Int), .int .u64 (x.b : Int), .int .u64 (x.c : Int)]) hHeld 0 (.int .u64 (stp x.a ch : Int)) rfl
            have HR1 := blk_far (p := ⟨w.heap.size + 1, 0, none⟩) (blk_drew HR) (by show w.heap.size ≠ w.heap.size + 1; omega) (.int .u64 (stp x.a ch : Int))
            have HB1 := (below_drew1 HB).setCell (p := ⟨w.heap.size + 1, 0, none⟩) (by show w.heap.size ≤ w.heap.size + 1; omega) (.int .u64 (stp x.a ch : Int))
            refine skip_ (w1 := wr.drew.setCell ⟨w.heap.size + 1, 0, none⟩ (.int .u64 (stp x.a ch : Int))) (by rfl) rfl ?_ ?_
            · go_simp
              rw [stp_wrap]
            refine hK.out _ _ ?_
            clear hK K k0 k1 k2 f0 f1 f2 hHeld HV HR HB
            generalize wr.drew.setCell ⟨w.heap.size + 1, 0, none⟩ (.int .u64 (stp x.a ch : Int)) = wn at HV1 HR1 HB1 ⊢
            refine done_ (by kernel_rfl) ?_
            go_wp2_with fail
            exact ⟨⟨j + 1, ⟨x.k, stp x.a ch, x.b, x.c⟩, 0, by omega, rfl, by go_num, hk2, Lib.hid (by rw [hsn.out]; unfold stepS; rw [if_neg HDOT.out, if_pos (by have := hk2.out.1; omega)]), Lib.hid ⟨stp_lt _ _, HL.out.2.1, HL.out.2.2⟩, HR1, HV1, HB1⟩, by simp [intOf]; omega⟩
          · subst h0
            go_wp2_with fail
            refine start_ (n := 13) (S := fun w' => w'.heap[w.heap.size + 1]? = some (.cells #[.int .u64 (x.a : Int), .int .u64 (x.b : Int), .int .u64 (x.c : Int)] 38 (0, 0))) (ds := [12]) #[false, false, false, false, false, false, false, false, false, false, false, false, false] (by kernel_rfl) rfl rfl (blk_drew HV) (fun hHeld => ?_)
            refine pure_ (i := 0) (N := some 28) (v := ?_) (a' := ?_) #[true, false, false, false, false, false, false, false, false, false, false, false, false] rfl rfl (by kernel_rfl) (fun _ _ _ h => h) (Or.inl ⟨by rfl, ?_⟩) ?_ ?_
            rotate_left
            · intro w'
              go_simp
              with_reducible rfl
            rotate_left
            · simp only [Act.put, List.setIfInBounds_toArray, List.set_cons_zero, List.set_cons_succ]
              rfl
            refine pure_ (i := 1) (N := some 29) (v := ?_) (a' := ?_) #[true, true, false, false, false, false, false, false, false, false, false, false, false] rfl rfl (by kernel_rfl) (fun _ _ _ h => h) (Or.inl ⟨by rfl, ?_⟩) ?_ ?_
            rotate_left
            · intro w'
              go_simp
              with_reducible rfl
            rotate_left
            · simp only [Act.put, List.setIfInBounds_toArray, List.set_cons_zero, List.set_cons_succ]
              rfl
            refine pure_ (i := 2) (N := some 30) (v := ?_) (a' := ?_) #[true, true, true, false, false, false, false, false, false, false, false, false, false] rfl rfl (by kernel_rfl) (fun _ _ _ h => h) (Or.inl ⟨by rfl, ?_⟩) ?_ ?_
            rotate_left
            · intro w'
              go_simp
              with_reducible rfl
            rotate_left
            · simp only [Act.put, List.setIfInBounds_toArray, List.set_cons_zero, List.set_cons_succ]
              rfl
            refine take_ (i := 3) (N := some 31) (v := ?_) (a' := ?_) #[true, true, true, true, false, false, false, false, false, false, false, false, false] rfl rfl (by kernel_rfl) (fun _ _ _ h => h) (Or.inl ⟨by rfl, ?_⟩) hHeld ?_ ?_
            rotate_left
            · rintro w' s0
              have k0 := (blk_cell s0 0).trans rfl
              have k1 := (blk_cell s0 1).trans rfl
              have k2 := (blk_cell s0 2).trans rfl
              go_simp
              with_reducible rfl
            rotate_left
            · simp only [Act.put, List.setIfInBounds_toArray, List.set_cons_zero, List.set_cons_succ]
              rfl
            refine pure_ (i := 4) (N := some 32) (v := ?_) (a' := ?_) #[true, true, true, true, true, false, false, false, false, false, false, false, false] rfl rfl (by kernel_rfl) (fun _ _ _ h => h) (Or.inl ⟨by rfl, ?_⟩) ?_ ?_
            rotate_left
            · intro w'
              go_simp
              with_reducible rfl
            rotate_left
            · simp only [Act.put, List.setIfInBounds_toArray, List.set_cons_zero, List.set_cons_succ]
              rfl
            refine pure_ (i := 5) (N := some 33) (v := ?_) (a' := ?_) #[true, true, true, true, true, true, false, false, false, false, false, false, false] rfl rfl (by kernel_rfl) (fun _ _ _ h => h) (Or.inl ⟨by rfl, ?_⟩) ?_ ?_
            rotate_left
            · intro w'
              go_simp
              with_reducible rfl
            rotate_left
            · simp only [Act.put, List.setIfInBounds_toArray, List.set_cons_zero, List.set_cons_succ]
              rfl
            refine pure_ (i := 6) (N := some 34) (v := ?_) (a' := ?_) #[true, true, true, true, true, true, true, false, false, false, false, false, false] rfl rfl (by kernel_rfl) (fun _ _ _ h => h) (Or.inl ⟨by rfl, ?_⟩) ?_ ?_
            rotate_left
            · intro w'
              go_simp
              with_reducible rfl
            rotate_left
            · simp only [Act.put, List.setIfInBounds_toArray, List.set_cons_zero, List.set_cons_succ]
              rfl
            refine pure_ (i := 7) (N := some 35) (v := ?_) (a' := ?_) #[true, true, true, true, true, true, true, true, false, false, false, false, false] rfl rfl (by kernel_rfl) (fun _ _ _ h => h) (Or.inl ⟨by rfl, ?_⟩) ?_ ?_
            rotate_left
            · intro w'
              go_simp
              with_reducible rfl
            rotate_left
            · simp only [Act.put, List.setIfInBounds_toArray, List.set_cons_zero, List.set_cons_succ]
              rfl
            refine pure_ (i := 8) (N := some 36) (v := ?_) (a' := ?_) #[true, true, true, true, true, true, true, true, true, false, false, false, false] rfl rfl (by kernel_rfl) (fun _ _ _ h => h) (Or.inl ⟨by rfl, ?_⟩) ?_ ?_
            rotate_left
            · intro w'
              go_simp
              with_reducible rfl
            rotate_left
            · simp only [Act.put, List.setIfInBounds_toArray, List.set_cons_zero, List.set_cons_succ]
              rfl
            refine pure_ (i := 9) (N := some 37) (v := ?_) (a' := ?_) #[true, true, true, true, true, true, true, true, true, true, false, false, false] rfl rfl (by kernel_rfl) (fun _ _ _ h => h) (Or.inl ⟨by rfl, ?_⟩) ?_ ?_
            rotate_left
            · intro w'
              go_simp
              with_reducible rfl
            rotate_left
            · simp only [Act.put, List.setIfInBounds_toArray, List.set_cons_zero, List.set_cons_succ]
              rfl
            refine pure_ (i := 10) (N := some 38) (v := ?_) (a' := ?_) #[true, true, true, true, true, true, true, true, true, true, true, false, false] rfl rfl (by kernel_rfl) (fun _ _ _ h => h) (Or.inl ⟨by rfl, ?_⟩) ?_ ?_
            rotate_left
            · intro w'
              go_simp
              with_reducible rfl
            rotate_left
            · simp only [Act.put, List.setIfInBounds_toArray, List.set_cons_zero, List.set_cons_succ]
              rfl
            refine pure_ (i := 11) (N := some 39) (v := ?_) (a' := ?_) #[true, true, true, true, true, true, true, true, true, true, true, true, false] rfl rfl (by kernel_rfl) (fun _ _ _ h => h) (Or.inl ⟨by rfl, ?_⟩) ?_ ?_
            rotate_left
            · intro w'
              go_simp
              with_reducible rfl
            rotate_left
            · simp only [Act.put, List.setIfInBounds_toArray, List.set_cons_zero, List.set_cons_succ]
              rfl
            refine last_ (i := 12) (N := none) #[true, true, true, true, true, true, true, true, true, true, true, true, true] rfl rfl (by kernel_rfl) (by decide) (fun K hK => ?_)
            have k0 := (blk_cell hHeld 0).trans rfl
            have f0 := blk_frozen hHeld 0
            have k1 := (blk_cell hHeld 1).trans rfl
            have f1 := blk_frozen hHeld 1
            have k2 := (blk_cell hHeld 2).trans rfl
            have f2 := blk_frozen hHeld 2
            have HV1 := blk_put (cs' := #[.int .u64 (x.a : Int), .int .u64 (stp x.b ch : Int), .int .u64 (x.c : Int)]) hHeld 1 (.int .u64 (stp x.b ch : Int)) rfl
            have HR1 := blk_far (p := ⟨w.heap.size + 1, 1, none⟩) (blk_drew HR) (by show w.heap.size ≠ w.heap.size + 1; omega) (.int .u64 (stp x.b ch : Int))
            have HB1 := (below_drew1 HB).setCell (p := ⟨w.heap.size + 1, 1, none⟩) (by show w.heap.size ≤ w.heap.size + 1; omega) (.int .u64 (stp x.b ch : Int))
            refine skip_ (w1 := wr.drew.setCell ⟨w.heap.size + 1, 1, none⟩ (.int .u64 (stp x.b ch : Int))) (by rfl) rfl ?_ ?_
            · go_simp
              rw [stp_wrap]
            refine hK.out _ _ ?_
            clear hK K k0 k1 k2 f0 f1 f2 hHeld HV HR HB
            generalize wr.drew.setCell ⟨w.heap.size + 1, 1, none⟩ (.int .u64 (stp x.b ch : Int)) = wn at HV1 HR1 HB1 ⊢
            refine done_ (by kernel_rfl) ?_
            go_wp2_with fail
            exact ⟨⟨j + 1, ⟨x.k, x.a, stp x.b ch, x.c⟩, 1, by omega, rfl, by go_num, hk2, Lib.hid (by rw [hsn.out]; unfold stepS; rw [if_neg HDOT.out, if_neg (by have := hk2.out.1; omega), if_pos (by have := hk2.out.1; omega)]), Lib.hid ⟨HL.out.1, stp_lt _ _, HL.out.2.2⟩, HR1, HV1, HB1⟩, by simp [intOf]; omega⟩
          · subst h0
            go_wp2_with fail
            refine start_ (n := 13) (S := fun w' => w'.heap[w.heap.size + 1]? = some (.cells #[.int .u64 (x.a : Int), .int .u64 (x.b : Int), .int .u64 (x.c : Int)] 38 (0, 0))) (ds := [12]) #[false, false, false, false, false, false, false, false, false, false, false, false, false] (by kernel_rfl) rfl rfl (blk_drew HV) (fun hHeld => ?_)
            refine pure_ (i := 0) (N := some 28) (v := ?_) (a' := ?_) #[true, false, false, false, false, false, false, false, false, false, false, false, false] rfl rfl (by kernel_rfl) (fun _ _ _ h => h) (Or.inl ⟨by rfl, ?_⟩) ?_ ?_
            rotate_left
            · intro w'
              go_simp
              with_reducible rfl
            rotate_left
            · simp only [Act.put, List.setIfInBounds_toArray, List.set_cons_zero, List.set_cons_succ]
              rfl
            refine pure_ (i := 1) (N := some 29) (v := ?_) (a' := ?_) #[true, true, false, false, false, false, false, false, false, false, false, false, false] rfl rfl (by kernel_rfl) (fun _ _ _ h => h) (Or.inl ⟨by rfl, ?_⟩) ?_ ?_
            rotate_left
            · intro w'
              go_simp
              with_reducible rfl
            rotate_left
            · simp only [Act.put, List.setIfInBounds_toArray, List.set_cons_zero, List.set_cons_succ]
              rfl
            refine pure_ (i := 2) (N := some 30) (v := ?_) (a' := ?_) #[true, true, true, false, false, false, false, false, false, false, false, false, false] rfl rfl (by kernel_rfl) (fun _ _ _ h => h) (Or.inl ⟨by rfl, ?_⟩) ?_ ?_
            rotate_left
            · intro w'
              go_simp
              with_reducible rfl
            rotate_left
            · simp only [Act.put, List.setIfInBounds_toArray, List.set_cons_zero, List.set_cons_succ]
              rfl
            refine take_ (i := 3) (N := some 31) (v := ?_) (a' := ?_) #[true, true, true, true, false, false, false, false, false, false, false, false, false] rfl rfl (by kernel_rfl) (fun _ _ _ h => h) (Or.inl ⟨by rfl, ?_⟩) hHeld ?_ ?_
            rotate_left
            · rintro w' s0
              have k0 := (blk_cell s0 0).trans rfl
              have k1 := (blk_cell s0 1).trans rfl
              have k2 := (blk_cell s0 2).trans rfl
              go_simp
              with_reducible rfl
            rotate_left
            · simp only [Act.put, List.setIfInBounds_toArray, List.set_cons_zero, List.set_cons_succ]
              rfl
            refine pure_ (i := 4) (N := some 32) (v := ?_) (a' := ?_) #[true, true, true, true, true, false, false, false, false, false, false, false, false] rfl rfl (by kernel_rfl) (fun _ _ _ h => h) (Or.inl ⟨by rfl, ?_⟩) ?_ ?_
            rotate_left
            · intro w'
              go_simp
              with_reducible rfl
            rotate_left
            · simp only [Act.put, List.setIfInBounds_toArray, List.set_cons_zero, List.set_cons_succ]
              rfl
            refine pure_ (i := 5) (N := some 33) (v := ?_) (a' := ?_) #[true, true, true, true, true, true, false, false, false, false, false, false, false] rfl rfl (by kernel_rfl) (fun _ _ _ h => h) (Or.inl ⟨by rfl, ?_⟩) ?_ ?_
            rotate_left
            · intro w'
              go_simp
              with_reducible rfl
            rotate_left
            · simp only [Act.put, List.setIfInBounds_toArray, List.set_cons_zero, List.set_cons_succ]
              rfl
            refine pure_ (i := 6) (N := some 34) (v := ?_) (a' := ?_) #[true, true, true, true, true, true, true, false, false, false, false, false, false] rfl rfl (by kernel_rfl) (fun _ _ _ h => h) (Or.inl ⟨by rfl, ?_⟩) ?_ ?_
            rotate_left
            · intro w'
              go_simp
              with_reducible rfl
            rotate_left
            · simp only [Act.put, List.setIfInBounds_toArray, List.set_cons_zero, List.set_cons_succ]
              rfl
            refine pure_ (i := 7) (N := some 35) (v := ?_) (a' := ?_) #[true, true, true, true, true, true, true, true, false, false, false, false, false] rfl rfl (by kernel_rfl) (fun _ _ _ h => h) (Or.inl ⟨by rfl, ?_⟩) ?_ ?_
            rotate_left
            · intro w'
              go_simp
              with_reducible rfl
            rotate_left
            · simp only [Act.put, List.setIfInBounds_toArray, List.set_cons_zero, List.set_cons_succ]
              rfl
            refine pure_ (i := 8) (N := some 36) (v := ?_) (a' := ?_) #[true, true, true, true, true, true, true, true, true, false, false, false, false] rfl rfl (by kernel_rfl) (fun _ _ _ h => h) (Or.inl ⟨by rfl, ?_⟩) ?_ ?_
            rotate_left
            · intro w'
              go_simp
              with_reducible rfl
            rotate_left
            · simp only [Act.put, List.setIfInBounds_toArray, List.set_cons_zero, List.set_cons_succ]
              rfl
            refine pure_ (i := 9) (N := some 37) (v := ?_) (a' := ?_) #[true, true, true, true, true, true, true, true, true, true, false, false, false] rfl rfl (by kernel_rfl) (fun _ _ _ h => h) (Or.inl ⟨by rfl, ?_⟩) ?_ ?_
            rotate_left
            · intro w'
              go_simp
              with_reducible rfl
            rotate_left
            · simp only [Act.put, List.setIfInBounds_toArray, List.set_cons_zero, List.set_cons_succ]
              rfl
            refine pure_ (i := 10) (N := some 38) (v := ?_) (a' := ?_) #[true, true, true, true, true, true, true, true, true, true, true, false, false] rfl rfl (by kernel_rfl) (fun _ _ _ h => h) (Or.inl ⟨by rfl, ?_⟩) ?_ ?_
            rotate_left
            · intro w'
              go_simp
              with_reducible rfl
            rotate_left
            · simp only [Act.put, List.setIfInBounds_toArray, List.set_cons_zero, List.set_cons_succ]
              rfl
            refine pure_ (i := 11) (N := some 39) (v := ?_) (a' := ?_) #[true, true, true, true, true, true, true, true, true, true, true, true, false] rfl rfl (by kernel_rfl) (fun _ _ _ h => h) (Or.inl ⟨by rfl, ?_⟩) ?_ ?_
            rotate_left
            · intro w'
              go_simp
              with_reducible rfl
            rotate_left
            · simp only [Act.put, List.setIfInBounds_toArray, List.set_cons_zero, List.set_cons_succ]
              rfl
            refine last_ (i := 12) (N := none) #[true, true, true, true, true, true, true, true, true, true, true, true, true] rfl rfl (by kernel_rfl) (by decide) (fun K hK => ?_)
            have k0 := (blk_cell hHeld 0).trans rfl
            have f0 := blk_frozen hHeld 0
            have k1 := (blk_cell hHeld 1).trans rfl
            have f1 := blk_frozen hHeld 1
            have k2 := (blk_cell hHeld 2).trans rfl
            have f2 := blk_frozen hHeld 2
            have HV1 := blk_put (cs' := #[.int .u64 (x.a : Int), .int .u64 (x.b : Int), .int .u64 (stp x.c ch : Int)]) hHeld 2 (.int .u64 (stp x.c ch : Int)) rfl
            have HR1 := blk_far (p := ⟨w.heap.size + 1, 2, none⟩) (blk_drew HR) (by show w.heap.size ≠ w.heap.size + 1; omega) (.int .u64 (stp x.c ch : Int))
            have HB1 := (below_drew1 HB).setCell (p := ⟨w.heap.size + 1, 2, none⟩) (by show w.heap.size ≤ w.heap.size + 1; omega) (.int .u64 (stp x.c ch : Int))
            refine skip_ (w1 := wr.drew.setCell ⟨w.heap.size + 1, 2, none⟩ (.int .u64 (stp x.c ch : Int))) (by rfl) rfl ?_ ?_
            · go_simp
              rw [stp_wrap]
            refine hK.out _ _ ?_
            clear hK K k0 k1 k2 f0 f1 f2 hHeld HV HR HB
            generalize wr.drew.setCell ⟨w.heap.size + 1, 2, none⟩ (.int .u64 (stp x.c ch : Int)) = wn at HV1 HR1 HB1 ⊢
            refine done_ (by kernel_rfl) ?_
            go_wp2_with fail
            exact ⟨⟨j + 1, ⟨x.k, x.a, x.b, stp x.c ch⟩, 2, by omega, rfl, by go_num, hk2, Lib.hid (by rw [hsn.out]; unfold stepS; rw [if_neg HDOT.out, if_neg (by have := hk2.out.1; omega), if_neg (by have := hk2.out.1; omega)]), Lib.hid ⟨HL.out.1, HL.out.2.1, stp_lt _ _⟩, HR1, HV1, HB1⟩, by simp [intOf]; omega⟩
      · have hj1 : ¬ (j : Int) < s.size := by omega
        obtain rfl : j = s.size := by omega
        have k0 := (blk_cell HV 0).trans rfl
        have k1 := (blk_cell HV 1).trans rfl
        have k2 := (blk_cell HV 2).trans rfl
        have hx : Hid (sums s.data.toList = x) := Lib.hid (by have := HX.out; rwa [List.take_of_length_le (by rw [data_length]; exact Nat.le_refl _)] at this)
        clear HX
        have CT2 : Hid (∀ W : World, Calls Tryd.prog 6 #[.agg #[.int .u64 (x.a : Int), .int .u32 ((x.b : Int) % 4294967296), .int .u32 ((x.c : Int) % 4294967296)]] W fun e w' => e = .returned (.string (tB x.a (x.b % 4294967296) (x.c % 4294967296))) ∧ Below W.heap.size W w') := Lib.hid fun W => by
          have h := CT.out x.a (x.b % 4294967296) (x.c % 4294967296) HL.out.1 (Nat.mod_lt _ (by omega)) (Nat.mod_lt _ (by omega)) W
          rw [Int.natCast_emod, Int.natCast_emod] at h
          exact h
        have HRa := blk_alloc HR (.cells #[.int .u64 (x.a : Int), .int .u32 ((x.b : Int) % 4294967296), .int .u32 ((x.c : Int) % 4294967296)] 25)
        have HSa := blk_new wr (.cells #[.int .u64 (x.a : Int), .int .u32 ((x.b : Int) % 4294967296), .int .u32 ((x.c : Int) % 4294967296)] 25)
        have HBa := below_alloc HB (.cells #[.int .u64 (x.a : Int), .int .u32 ((x.b : Int) % 4294967296), .int .u32 ((x.c : Int) % 4294967296)] 25)
        have hlt := blk_lt HR
        have hne : wr.heap.size ≠ w.heap.size := by omega
        clear CT
        go_wp2_with fail
        refine (CT2.out _).mono ?_
        rintro e w5 ⟨rfl, hb5⟩
        have HR5 := blk_below HRa hb5
        have HS5 := blk_below HSa hb5
        have HB5 := below_step HBa hb5
        clear HRa HSa HBa hb5 k0 k1 k2 HV HR HB CT2
        by_cases hback : tB x.a (x.b % 4294967296) (x.c % 4294967296) = s
        · have HT : Hid (IsText s x.a (x.b % 4294967296) (x.c % 4294967296)) := Lib.hid ⟨hback.symm, by have := HL.out.1; omega, by omega, by omega⟩
          rw [hback]
          clear hback
          have s0 := (blk_cell HS5 0).trans rfl
          have s1 := (blk_cell HS5 1).trans rfl
          have s2 := (blk_cell HS5 2).trans rfl
          have k0 := (blk_cell HR5 0).trans rfl
          have k1 := (blk_cell HR5 1).trans rfl
          have k2 := (blk_cell HR5 2).trans rfl
          have f0 := blk_frozen HR5 0
          have f1 := blk_frozen HR5 1
          have f2 := blk_frozen HR5 2
          have hset : Hid (∀ x y z : Value, _) := Lib.hid fun x y z => blk_put (cs' := #[x, y, z]) (blk_set (blk_set HR5 0 x) 1 y) 2 z rfl
          go_wp2_with fail
          refine bodyPost_ret (results_ct rfl _ _ w.heap.size 25 #[.int .u64 (x.a : Int), .int .u32 ((x.b : Int) % 4294967296), .int .u32 ((x.c : Int) % 4294967296)] (0, 0) _ rfl (hset.out _ _ _) Tryd.underlying25 rfl (by kernel_rfl)) rfl ?_
          exact ⟨.inl ⟨_, _, _, HT.out, by rw [Int.natCast_emod, Int.natCast_emod]; rfl⟩, ((HB5.setCell (Nat.le_refl _) _).setCell (Nat.le_refl _) _).setCell (Nat.le_refl _) _⟩
        · have HN := Lib.hid (fun a b c => not_back hx.out hback a b c)
          generalize tB x.a (x.b % 4294967296) (x.c % 4294967296) = back at hback ⊢
          have hne : back.toList ≠ s.toList := fun e => hback (by
            rw [ByteArray.toList_eq, ByteArray.toList_eq] at e
            rw [← bA_data back, ← bA_data s, e])
          have hb1 : (back.toList == s.toList) = false := beq_eq_false_iff_ne.2 hne
          have hb2 : (back.toList != s.toList) = true := bne_iff_ne.2 hne
          clear hback hne
          have k0 := (blk_cell HR5 0).trans rfl
          have k1 := (blk_cell HR5 1).trans rfl
          have k2 := (blk_cell HR5 2).trans rfl
          have f0 := blk_frozen HR5 0
          have f1 := blk_frozen HR5 1
          have f2 := blk_frozen HR5 2
          have hset : Hid (∀ x y z : Value, _) := Lib.hid fun x y z => blk_put (cs' := #[x, y, z]) (blk_set (blk_set HR5 0 x) 1 y) 2 z rfl
          go_wp2_with fail
          refine bodyPost_ret (results_ct rfl _ _ w.heap.size 25 #[.int .u64 0, .int .u32 0, .int .u32 0] (0, 0) _ rfl (hset.out _ _ _) Tryd.underlying25 rfl (by kernel_rfl)) rfl ?_
          exact ⟨.inr ⟨HN.out, rfl⟩, ((HB5.setCell (Nat.le_refl _) _).setCell (Nat.le_refl _) _).setCell (Nat.le_refl _) _⟩
end Go.Proofs.YtljkipkcabjcaaaDoor.PStampParses
