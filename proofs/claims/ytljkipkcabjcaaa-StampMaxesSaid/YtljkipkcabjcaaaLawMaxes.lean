/-
  The walk of the law StampMaxes: it returns true, for every list of stamps.
-/
import Derived.Test.YtljkipkcabjcaaaPureMaxes
import Derived.Lib.Hide
import Derived.Outline
namespace Go.Proofs.Ytljkipkcabjcaaa.PStampMaxes
set_option linter.unusedSimpArgs false
set_option linter.unusedVariables false
open Go.RowKit Go.Proofs.YtljkipkcabjcaaaW.PrintWords Go.Proofs.YtljkipkcabjcaaaW.PrintLast Go.Proofs.YtljkipkcabjcaaaW.PrintMore
attribute [local go_sem high] eqA25
theorem C_one {w : World} {g t : Nat} {a b c : Int} (h : w.heap[g]? = some (.cells #[.int .u64 a, .int .u32 b, .int .u32 c] t (0, 0))) : Kd.C k25 w (some ⟨g, 0, none⟩) 1 [(⟨a, b, c⟩ : S25)] := by
  refine ⟨rfl, by omega, fun _ => ⟨_, rfl, fun j p hj => ?_⟩⟩
  match j, hj with
  | 0, hj =>
    simp only [List.getElem?_cons_zero, Option.some.injEq] at hj
    subst hj
    refine ⟨[.int .u64 a, .int .u32 b, .int .u32 c], rfl, k25_mk _ _, fun i u hi => ?_⟩
    rw [Nat.zero_mul, Nat.zero_add, add_plain, blk_cell h]
    simpa using hi
  | j + 1, hj => simp at hj
set_option maxHeartbeats 1000000 in
theorem maxes_calls (A0 : Option Addr) (c0 : Nat) (l : List S25) (w : World) (hr0 : Kd.C k25 w A0 l.length l) (hc0 : l.length ≤ c0) (hn : l.length ≤ 8796093021952) (hp : ∀ s ∈ l, Pos s) :
    Calls Try.prog 6 #[.slice A0 l.length c0] w fun e w' => e = .returned (.bool true) ∧ Below w.heap.size w w' := by
  obtain ⟨room, hroom, hR⟩ := roomy_is l hn (k := 3 * l.length + 4) (by omega)
  have hcut := cut_is l hn (k := 3 * l.length + 4) (by omega)
  have hmax := max_is l hn (k := 3 * l.length + 4) (by omega)
  have hmaxR := maxR_is l hn (k := 3 * l.length + 4) (by omega)
  have hspared := spared_is hR hn (k := 3 * l.length + 4) (by omega)
  have hpos := mx_pos l (0, 0, 0) hp (by simp)
  obtain ⟨m0, m1, m2, hm⟩ : ∃ m0 m1 m2, mx (0, 0, 0) l = (m0, m1, m2) := ⟨_, _, _, rfl⟩
  rw [hm] at hmax hmaxR hpos
  have hone := (max_is [(⟨m0, m1, m2⟩ : S25)] (by simp) (k := 2) (by simp)).trans (congrArg some (mx_one m0 m1 m2 hpos))
  have hnone := max_is [] (by simp) (k := 2) (by simp)
  have hrl := hR.1
  have hrt := hR.take_
  have HCUT := Lib.hid hcut
  have HROOM := Lib.hid hroom
  have HMAX := Lib.hid hmax
  have HMAXR := Lib.hid hmaxR
  have HSP := Lib.hid hspared
  have HONE := Lib.hid hone
  have HNONE := Lib.hid hnone
  have HRT := Lib.hid hrt
  have HRL := Lib.hid hrl
  have HR0 := Lib.hid hr0
  have hu25 := Try.underlying25
  clear hroom hcut hmax hmaxR hspared hpos hm hone hnone hrt hrl hR hp hr0
  go_enter Try.func6, Try.ntmps6
  go_wp2_with fail
  refine (tidemarklaw1_cut.calls _ _ _ l l _ HR0.out hc0 HCUT.out).mono ?_
  rintro e w1 ⟨v1, rfl, ho1, hb1⟩
  obtain ⟨A1, c1, rfl, hc1, hC1⟩ := Kd.R_reads ho1
  go_wp2_with fail
  refine (tidemarklaw1_roomy.calls _ _ _ l room _ hC1 hc1 HROOM.out).mono ?_
  rintro e w2 ⟨v2, rfl, ho2, hb2⟩
  have hrl := HRL.out
  obtain ⟨g, c2, rfl, hbg, hlg, _⟩ := Kd.R_form ho2 (by omega)
  have hcR := (Kd.R_reads' ho2).2.1
  have q1 : (l.length : Int) ≤ c2 := by omega
  have q2 : l.length ≤ c2 := by omega
  clear hrl
  go_wp2_with fail
  have hC2 := Kd.C_take (Kd.R_reads' ho2).2.2 (show l.length ≤ room.length by have := HRL.out; omega)
  rw [HRT.out] at hC2
  refine (stamp_Max.calls _ _ _ l m0 m1 m2 _ hC2 q2 HMAX.out).mono ?_
  rintro e w3 ⟨rfl, hb3⟩
  go_wp2_with fail
  refine start_ (n := 10) (S := fun w' => w'.heap[w3.heap.size]? = some (.cells #[.int .u64 m0, .int .u32 m1, .int .u32 m2] 25 (0, 0)) ∧ Kd.C k25 w' A1 l.length l ∧ Kd.C k25 w' (some ⟨g, 0, none⟩) room.length room) (ds := []) #[false, false, false, false, false, false, false, false, false, false] (by kernel_rfl) rfl rfl ⟨blk_new w3 _, Kd.C_alloc (Kd.C_below (Kd.C_below hC1 hb2) hb3) _, Kd.C_alloc (Kd.C_below (Kd.R_reads' ho2).2.2 hb3) _⟩ (fun hHeld => ?_)
  refine take_ (i := 0) (N := some 18) (v := ?_) (a' := ?_) #[true, false, false, false, false, false, false, false, false, false] rfl rfl (by kernel_rfl) (fun _ _ _ h => h) (Or.inl ⟨by rfl, ?_⟩) hHeld ?_ ?_
  rotate_left
  · rintro w' ⟨s0, s1, s2⟩
    have k0 := (blk_cell s0 0).trans rfl
    have k1 := (blk_cell s0 1).trans rfl
    have k2 := (blk_cell s0 2).trans rfl
    go_simp
    with_reducible rfl
  rotate_left
  · simp only [Act.put, List.setIfInBounds_toArray, List.set_cons_zero, List.set_cons_succ]
    rfl
  refine pure_ (i := 1) (N := some 19) (v := ?_) (a' := ?_) #[true, true, false, false, false, false, false, false, false, false] rfl rfl (by kernel_rfl) (fun _ _ _ h => h) (Or.inl ⟨by rfl, ?_⟩) ?_ ?_
  rotate_left
  · intro w'
    go_simp
    with_reducible rfl
  rotate_left
  · simp only [Act.put, List.setIfInBounds_toArray, List.set_cons_zero, List.set_cons_succ]
    rfl
  refine one_ (i := 2) (N := some 20) #[true, true, true, false, false, false, false, false, false, false] rfl rfl (by kernel_rfl) (by decide) (fun K hK => ?_)
  refine goes_ Try.func21 (by kernel_rfl) rfl #[.slice A1 l.length c1] (by rfl) rfl rfl (by simp only [List.map_toArray, List.map_cons, List.map_nil]; rfl) ?_
  refine (tidemarkref1_Max.calls _ _ _ l m0 m1 m2 _ hHeld.2.1 hc1 HMAXR.out).mono ?_
  rintro e w4 ⟨rfl, hb4⟩
  refine ⟨_, rfl, ?_⟩
  refine hK.out _ _ (⟨blk_below hHeld.1 hb4, Kd.C_below hHeld.2.1 hb4, Kd.C_below hHeld.2.2 hb4⟩) (fun hHeld => ?_)
  clear hK K
  refine norm_ (a' := ?_) ?_ ?_
  rotate_left
  · show Act.put _ (some 20) _ = _
    simp only [Act.put, List.setIfInBounds_toArray, List.set_cons_zero, List.set_cons_succ]
    rfl
  refine pure_ (i := 3) (N := some 21) (v := ?_) (a' := ?_) #[true, true, true, true, false, false, false, false, false, false] rfl rfl (by kernel_rfl) (fun _ _ _ h => h) (Or.inl ⟨by rfl, ?_⟩) ?_ ?_
  rotate_left
  · intro w'
    go_simp
    with_reducible rfl
  rotate_left
  · simp only [Act.put, List.setIfInBounds_toArray, List.set_cons_zero, List.set_cons_succ]
    rfl
  refine pure_ (i := 4) (N := some 22) (v := ?_) (a' := ?_) #[true, true, true, true, true, false, false, false, false, false] rfl rfl (by kernel_rfl) (fun _ _ _ h => h) (Or.inl ⟨by rfl, ?_⟩) ?_ ?_
  rotate_left
  · intro w'
    go_simp
    with_reducible rfl
  rotate_left
  · simp only [Act.put, List.setIfInBounds_toArray, List.set_cons_zero, List.set_cons_succ]
    rfl
  refine pure_ (i := 5) (N := some 23) (v := ?_) (a' := ?_) #[true, true, true, true, true, true, false, false, false, false] rfl rfl (by kernel_rfl) (fun _ _ _ h => h) (Or.inl ⟨by rfl, ?_⟩) ?_ ?_
  rotate_left
  · intro w'
    go_simp
    with_reducible rfl
  rotate_left
  · simp only [Act.put, List.setIfInBounds_toArray, List.set_cons_zero, List.set_cons_succ]
    rfl
  refine pure_ (i := 6) (N := some 24) (v := ?_) (a' := ?_) #[true, true, true, true, true, true, true, false, false, false] rfl rfl (by kernel_rfl) (fun _ _ _ h => h) (Or.inl ⟨by rfl, ?_⟩) ?_ ?_
  rotate_left
  · intro w'
    go_simp
    with_reducible rfl
  rotate_left
  · simp only [Act.put, List.setIfInBounds_toArray, List.set_cons_zero, List.set_cons_succ]
    rfl
  refine one_ (i := 7) (N := some 25) #[true, true, true, true, true, true, true, true, false, false] rfl rfl (by kernel_rfl) (by decide) (fun K hK => ?_)
  refine goes_ Try.func22 (by kernel_rfl) rfl #[.slice (some ⟨g, 0, none⟩) room.length c2, .slice A1 l.length c1] (by rfl) rfl rfl (by simp only [List.map_toArray, List.map_cons, List.map_nil]; rfl) ?_
  refine (tidemarklaw1_spared.calls _ _ _ room _ _ l true _ hHeld.2.2 hcR hHeld.2.1 hc1 HSP.out).mono ?_
  rintro e w5 ⟨rfl, hd5⟩
  refine ⟨_, rfl, ?_⟩
  refine hK.out _ _ (⟨blk_below hHeld.1 hd5.below, Kd.C_below hHeld.2.1 hd5.below, Kd.C_below hHeld.2.2 hd5.below⟩) (fun hHeld => ?_)
  clear hK K
  refine norm_ (a' := ?_) ?_ ?_
  rotate_left
  · show Act.put _ (some 25) _ = _
    simp only [Act.put, List.setIfInBounds_toArray, List.set_cons_zero, List.set_cons_succ]
    rfl
  refine pure_ (i := 8) (N := some 26) (v := ?_) (a' := ?_) #[true, true, true, true, true, true, true, true, true, false] rfl rfl (by kernel_rfl) (fun _ _ _ h => h) (Or.inl ⟨by rfl, ?_⟩) ?_ ?_
  rotate_left
  · intro w'
    go_simp
    with_reducible rfl
  rotate_left
  · simp only [Act.put, List.setIfInBounds_toArray, List.set_cons_zero, List.set_cons_succ]
    rfl
  refine pure_ (i := 9) (N := some 27) (v := ?_) (a' := ?_) #[true, true, true, true, true, true, true, true, true, true] rfl rfl (by kernel_rfl) (fun _ _ _ h => h) (Or.inl ⟨by rfl, ?_⟩) ?_ ?_
  rotate_left
  · intro w'
    go_simp
    with_reducible rfl
  rotate_left
  · simp only [Act.put, List.setIfInBounds_toArray, List.set_cons_zero, List.set_cons_succ]
    rfl
  refine done_ (by kernel_rfl) ?_
  obtain ⟨s5, hCl5, hCr5⟩ := hHeld
  have k0 := (blk_cell s5 0).trans rfl
  have k1 := (blk_cell s5 1).trans rfl
  have k2 := (blk_cell s5 2).trans rfl
  go_wp2_with fail
  refine (stamp_Max.calls 2 _ _ [(⟨m0, m1, m2⟩ : S25)] m0 m1 m2 _ (C_one (blk_new w5 _)) (Nat.le_refl _) HONE.out).mono ?_
  rintro e w6 ⟨rfl, hb6⟩
  have s6 := blk_below (blk_alloc s5 _) hb6
  have hCl6 := Kd.C_below (Kd.C_alloc hCl5 (.cells #[.int .u64 m0, .int .u32 m1, .int .u32 m2] 25)) hb6
  clear k0 k1 k2
  go_wp2_with fail
  refine (stamp_Max.calls 2 none 0 [] 0 0 0 _ (Kd.C_nil _ _) (Nat.le_refl _) HNONE.out).mono ?_
  rintro e w7 ⟨rfl, hb7⟩
  have s7 := blk_below (blk_alloc s6 _) hb7
  have z7 := blk_below (blk_new w6 (.cells #[.int .u64 m0, .int .u32 m1, .int .u32 m2] 25)) hb7
  have hCl7 := Kd.C_below (Kd.C_alloc hCl6 (.cells #[.int .u64 m0, .int .u32 m1, .int .u32 m2] 25)) hb7
  have k0 := (blk_cell s7 0).trans rfl
  have k1 := (blk_cell s7 1).trans rfl
  have k2 := (blk_cell s7 2).trans rfl
  have j0 := (blk_cell z7 0).trans rfl
  have j1 := (blk_cell z7 1).trans rfl
  have j2 := (blk_cell z7 2).trans rfl
  have l1 := blk_lt s7
  have l2 := blk_lt z7
  go_wp2_with fail
  have hB8 : Below w1.heap.size w1 (w7.alloc (.cells #[.int .u64 0, .int .u32 0, .int .u32 0] 25)) :=
    below_alloc (below_step (below_alloc (below_step (below_alloc (below_step (below_step (below_drew1 (below_alloc (below_step hb2 hb3) _)) hb4) hd5.below) _) hb6) _) hb7) _
  have ho8 : k25.R 25 (w7.alloc (.cells #[.int .u64 0, .int .u32 0, .int .u32 0] 25)) w1.heap.size (fun _ => True) (.slice (some ⟨g, 0, none⟩) room.length c2) room := by
    refine Kd.R_below ho2 ?_
    exact below_alloc (below_step (below_alloc (below_step (below_alloc (below_step (below_step (below_drew1 (below_alloc hb3 _)) hb4) hd5.below) _) hb6) _) hb7) _
  clear k0 k1 k2 j0 j1 j2 l1 l2 s7 z7 hCl7 s6 hCl6 s5 hCl5 hCr5 hC2 ho2
  go_loopw [8] (fun v wr => ∃ (k : Nat) (xs : List S25), k ≤ l.length ∧ v = .int .i64 k ∧ xs.length = room.length ∧ Kd.R k25 25 wr w1.heap.size (fun _ => True) (.slice (some ⟨g, 0, none⟩) room.length c2) xs ∧ Below w1.heap.size w1 wr) (fun v _ => l.length - (intOf v).toNat)
  case atStart => exact ⟨0, room, by omega, rfl, rfl, ho8, hB8⟩
  case round =>
    obtain ⟨k, xs, hk, rfl, hxl, ho, hB⟩ := hrel
    have HXL := Lib.hid hxl
    clear hxl ho8 hB8
    by_cases hlt : k < l.length
    · have h1 : (k : Int) < room.length := by have := HRL.out; omega
      obtain ⟨ce, hcl, hM, hcc, hfr⟩ := Kd.R_elem ho z25 (k : Int) (by omega) h1
      have hce := k25_openM hM
      subst hce
      have f0 := hfr 0
      have f1 := hfr 1
      have f2 := hfr 2
      have e0 := hcc 0 _ rfl
      have e1 := hcc 1 _ rfl
      have e2 := hcc 2 _ rfl
      have hseg := Kd.R_seg ho (k : Int) (by omega) h1 (seg := [.int .u64 5, .int .u32 ((k : Int) % 4294967296), .int .u32 0]) (j := 0) hcl hcc (show 3 ≤ 3 from by decide) (x' := (⟨5, (k : Int) % 4294967296, 0⟩ : S25)) (k25_mkM _ _ _ _) (fun _ hk => hk)
      simp only [Int.toNat_natCast, Nat.add_zero] at f0 f1 f2 e0 e1 e2 hseg
      have hz : k25.sz = 3 := rfl
      simp only [hz, Nat.add_zero] at f0 f1 f2 e0 e1 e2 hseg
      have HSEG := Lib.hid hseg
      clear hcc hfr hM hcl hseg hz
      have h2 : (k : Int) < c2 := by omega
      have h3 : k < room.length := by omega
      go_wp2_with fail
      have hs := HSEG.out
      simp only [World.setCells, Nat.add_assoc] at hs
      refine ⟨⟨k + 1, _, by omega, by go_num, by rw [List.length_set]; exact HXL.out, hs.1, ?_⟩, by simp [intOf]; omega⟩
      exact ((hB.setCell hbg _).setCell hbg _).setCell hbg _
    · obtain ⟨L, hL⟩ : ∃ L, L = xs.take l.length := ⟨_, rfl⟩
      have hCx := Kd.C_take (Kd.R_reads' ho).2.2 (show l.length ≤ xs.length by have := HRL.out; have := HXL.out; omega)
      rw [← hL] at hCx
      have hLl : L.length = l.length := by
        rw [hL, List.length_take]
        have := HRL.out
        have := HXL.out
        omega
      obtain ⟨p0, p1, p2, hp⟩ : ∃ p0 p1 p2, mx (0, 0, 0) L = (p0, p1, p2) := ⟨_, _, _, rfl⟩
      have CM : ∀ W : World, Kd.C k25 W (some ⟨g, 0, none⟩) l.length L → Calls Try.prog 20 #[.slice (some ⟨g, 0, none⟩) l.length c2] W fun e w' => e = .returned (.agg #[.int .u64 p0, .int .u32 p1, .int .u32 p2]) ∧ Below W.heap.size W w' := by
        intro W h
        have := stamp_Max.calls (L.length + 1) (some ⟨g, 0, none⟩) c2 L p0 p1 p2 W (by rw [hLl]; exact h) (by omega) ((max_is L (by omega) (by omega)).trans (congrArg some hp))
        rw [hLl] at this
        exact this
      have CR : ∀ W : World, Kd.C k25 W (some ⟨g, 0, none⟩) l.length L → Calls Try.prog 21 #[.slice (some ⟨g, 0, none⟩) l.length c2] W fun e w' => e = .returned (.agg #[.int .u64 p0, .int .u32 p1, .int .u32 p2]) ∧ Below W.heap.size W w' := by
        intro W h
        have := tidemarkref1_Max.calls (L.length + 1) (some ⟨g, 0, none⟩) c2 L p0 p1 p2 W (by rw [hLl]; exact h) (by omega) ((maxR_is L (by omega) (by omega)).trans (congrArg some hp))
        rw [hLl] at this
        exact this
      rw [hLl] at hCx
      replace CM := Lib.hid CM
      replace CR := Lib.hid CR
      clear hp hLl hL
      go_wp2_with fail
      refine start_ (n := 12) (S := fun w' => Kd.C k25 w' (some ⟨g, 0, none⟩) l.length L) (ds := []) #[false, false, false, false, false, false, false, false, false, false, false, false] (by kernel_rfl) rfl rfl hCx (fun hHeld => ?_)
      refine pure_ (i := 0) (N := some 52) (v := ?_) (a' := ?_) #[true, false, false, false, false, false, false, false, false, false, false, false] rfl rfl (by kernel_rfl) (fun _ _ _ h => h) (Or.inl ⟨by rfl, ?_⟩) ?_ ?_
      rotate_left
      · intro w'
        go_simp
        with_reducible rfl
      rotate_left
      · simp only [Act.put, List.setIfInBounds_toArray, List.set_cons_zero, List.set_cons_succ]
        rfl
      refine pure_ (i := 1) (N := some 53) (v := ?_) (a' := ?_) #[true, true, false, false, false, false, false, false, false, false, false, false] rfl rfl (by kernel_rfl) (fun _ _ _ h => h) (Or.inl ⟨by rfl, ?_⟩) ?_ ?_
      rotate_left
      · intro w'
        go_simp
        with_reducible rfl
      rotate_left
      · simp only [Act.put, List.setIfInBounds_toArray, List.set_cons_zero, List.set_cons_succ]
        rfl
      refine pure_ (i := 2) (N := some 54) (v := ?_) (a' := ?_) #[true, true, true, false, false, false, false, false, false, false, false, false] rfl rfl (by kernel_rfl) (fun _ _ _ h => h) (Or.inl ⟨by rfl, ?_⟩) ?_ ?_
      rotate_left
      · intro w'
        go_simp
        with_reducible rfl
      rotate_left
      · simp only [Act.put, List.setIfInBounds_toArray, List.set_cons_zero, List.set_cons_succ]
        rfl
      refine pure_ (i := 3) (N := some 55) (v := ?_) (a' := ?_) #[true, true, true, true, false, false, false, false, false, false, false, false] rfl rfl (by kernel_rfl) (fun _ _ _ h => h) (Or.inl ⟨by rfl, ?_⟩) ?_ ?_
      rotate_left
      · intro w'
        go_simp
        with_reducible rfl
      rotate_left
      · simp only [Act.put, List.setIfInBounds_toArray, List.set_cons_zero, List.set_cons_succ]
        rfl
      refine pure_ (i := 5) (N := some 57) (v := ?_) (a' := ?_) #[true, true, true, true, false, true, false, false, false, false, false, false] rfl rfl (by kernel_rfl) (fun _ _ _ h => h) (Or.inl ⟨by rfl, ?_⟩) ?_ ?_
      rotate_left
      · intro w'
        go_simp
        with_reducible rfl
      rotate_left
      · simp only [Act.put, List.setIfInBounds_toArray, List.set_cons_zero, List.set_cons_succ]
        rfl
      refine pure_ (i := 6) (N := some 58) (v := ?_) (a' := ?_) #[true, true, true, true, false, true, true, false, false, false, false, false] rfl rfl (by kernel_rfl) (fun _ _ _ h => h) (Or.inl ⟨by rfl, ?_⟩) ?_ ?_
      rotate_left
      · intro w'
        go_simp
        with_reducible rfl
      rotate_left
      · simp only [Act.put, List.setIfInBounds_toArray, List.set_cons_zero, List.set_cons_succ]
        rfl
      refine pure_ (i := 7) (N := some 59) (v := ?_) (a' := ?_) #[true, true, true, true, false, true, true, true, false, false, false, false] rfl rfl (by kernel_rfl) (fun _ _ _ h => h) (Or.inl ⟨by rfl, ?_⟩) ?_ ?_
      rotate_left
      · intro w'
        go_simp
        with_reducible rfl
      rotate_left
      · simp only [Act.put, List.setIfInBounds_toArray, List.set_cons_zero, List.set_cons_succ]
        rfl
      refine pure_ (i := 8) (N := some 60) (v := ?_) (a' := ?_) #[true, true, true, true, false, true, true, true, true, false, false, false] rfl rfl (by kernel_rfl) (fun _ _ _ h => h) (Or.inl ⟨by rfl, ?_⟩) ?_ ?_
      rotate_left
      · intro w'
        go_simp
        with_reducible rfl
      rotate_left
      · simp only [Act.put, List.setIfInBounds_toArray, List.set_cons_zero, List.set_cons_succ]
        rfl
      refine one_ (i := 4) (N := some 56) #[true, true, true, true, true, true, true, true, true, false, false, false] rfl rfl (by kernel_rfl) (by decide) (fun K hK => ?_)
      refine goes_ Try.func20 (by kernel_rfl) rfl #[.slice (some ⟨g, 0, none⟩) l.length c2] (by rfl) rfl rfl (by simp only [List.map_toArray, List.map_cons, List.map_nil]; rfl) ?_
      refine (CM.out _ hHeld).mono ?_
      rintro e w9 ⟨rfl, hb9⟩
      refine ⟨_, rfl, ?_⟩
      refine hK.out _ _ (Kd.C_below hHeld hb9) (fun hHeld => ?_)
      clear hK K
      refine norm_ (a' := ?_) ?_ ?_
      rotate_left
      · show Act.put _ (some 56) _ = _
        simp only [Act.put, List.setIfInBounds_toArray, List.set_cons_zero, List.set_cons_succ]
        rfl
      refine one_ (i := 9) (N := some 61) #[true, true, true, true, true, true, true, true, true, true, false, false] rfl rfl (by kernel_rfl) (by decide) (fun K hK => ?_)
      refine goes_ Try.func21 (by kernel_rfl) rfl #[.slice (some ⟨g, 0, none⟩) l.length c2] (by rfl) rfl rfl (by simp only [List.map_toArray, List.map_cons, List.map_nil]; rfl) ?_
      refine (CR.out _ hHeld).mono ?_
      rintro e w10 ⟨rfl, hb10⟩
      refine ⟨_, rfl, ?_⟩
      refine hK.out _ _ (Kd.C_below hHeld hb10) (fun hHeld => ?_)
      clear hK K
      refine norm_ (a' := ?_) ?_ ?_
      rotate_left
      · show Act.put _ (some 61) _ = _
        simp only [Act.put, List.setIfInBounds_toArray, List.set_cons_zero, List.set_cons_succ]
        rfl
      refine pure_ (i := 10) (N := some 62) (v := ?_) (a' := ?_) #[true, true, true, true, true, true, true, true, true, true, true, false] rfl rfl (by kernel_rfl) (fun _ _ _ h => h) (Or.inl ⟨by rfl, ?_⟩) ?_ ?_
      rotate_left
      · intro w'
        go_simp
        with_reducible rfl
      rotate_left
      · simp only [Act.put, List.setIfInBounds_toArray, List.set_cons_zero, List.set_cons_succ]
        rfl
      refine pure_ (i := 11) (N := some 2) (v := ?_) (a' := ?_) #[true, true, true, true, true, true, true, true, true, true, true, true] rfl rfl (by kernel_rfl) (fun _ _ _ h => h) (Or.inl ⟨by rfl, ?_⟩) ?_ ?_
      rotate_left
      · intro w'
        go_simp
        with_reducible rfl
      rotate_left
      · simp only [Act.put, List.setIfInBounds_toArray, List.set_cons_zero, List.set_cons_succ]
        rfl
      refine done_ (by kernel_rfl) ?_
      go_wp2_with fail
      go_ret
      refine ⟨rfl, ?_⟩
      have hB9 := below_step (below_step (below_drew1 hB) hb9) hb10
      exact hb1.trans (hB9.mono hb1.size)
end Go.Proofs.Ytljkipkcabjcaaa.PStampMaxes
