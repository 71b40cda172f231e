/-
  sameSchema, of two schemas that are the same.
-/
import Derived.Test.YtfkbpjeocljflaaDoorRefLaw
import Derived.Test.YtfkbpjeocljflaaDoorWrite0
import Derived.BigQuiet
namespace Go.Proofs.YtfkbpjeocljflaaDoor
open Go Go.RowKit Go.Lib Go.Proofs.YtfkbpjeocljflaaDoor.PTableText Go.Proofs.YtfkbpjeocljflaaDoorW.PrintWords Go.Proofs.YtfkbpjeocljflaaDoorW.PrintLast Go.Proofs.YtfkbpjeocljflaaDoorW.PrintMore
set_option linter.unusedVariables false
set_option linter.unusedSimpArgs false

theorem drewN_below {n : Nat} {w a : World} (h : Below n w a) (m : Nat) : Below n w (a.drewN m) := h.trans ⟨rfl, rfl, rfl, Nat.le_refl _, fun _ _ => rfl⟩

set_option maxHeartbeats 4000000 in
set_option maxRecDepth 100000 in
theorem same_calls (name : ByteArray) (cols : List S56) (key : Int) (idxs : List S40) (hs : ∀ x ∈ idxs, x.f1.length ≤ 2000000) (A A' B B' : Option Addr) (c c' d d' : Nat) (w : World)
    (hA : Kd.C k56 w A cols.length cols) (hA' : Kd.C k40 w A' idxs.length idxs) (hB : Kd.C k56 w B cols.length cols) (hB' : Kd.C k40 w B' idxs.length idxs) :
    Calls Tryd.prog 7 #[.agg #[.string name, .slice A cols.length c, .int .i64 key, .slice A' idxs.length c'], .agg #[.string name, .slice B cols.length d, .int .i64 key, .slice B' idxs.length d']] w fun e w' => e = .returned (.bool true) ∧ Below w.heap.size w w' := by
  have HA := Aside0.mk hA
  have HA' := Aside0.mk hA'
  have HB := Aside0.mk hB
  have HB' := Aside0.mk hB'
  have HSM := Aside0.mk hs
  have hmax : idxs.length ≤ 9223372036854775807 := Kd.C_max hA'
  have hmaxc : cols.length ≤ 9223372036854775807 := Kd.C_max hA
  clear hA hA' hB hB' hs
  obtain ⟨W0, hW0⟩ : ∃ W0, W0 = (w.alloc (.cells #[.string name, .slice A cols.length c, .int .i64 key, .slice A' idxs.length c'] 25)).alloc (.cells #[.string name, .slice B cols.length d, .int .i64 key, .slice B' idxs.length d'] 25) := ⟨_, rfl⟩
  have z0 : W0.heap.size = w.heap.size + 2 := by rw [hW0]; simp
  have x0 : W0.heap[w.heap.size]? = some (.cells #[.string name, .slice A cols.length c, .int .i64 key, .slice A' idxs.length c'] 25 (0, 0)) := by rw [hW0]; exact (Below.heap_alloc _ _ _ (by simp)).trans (World.alloc_heap_new w _)
  have y0 : W0.heap[w.heap.size + 1]? = some (.cells #[.string name, .slice B cols.length d, .int .i64 key, .slice B' idxs.length d'] 25 (0, 0)) := by
    rw [hW0]
    have := World.alloc_heap_new (w.alloc (.cells #[.string name, .slice A cols.length c, .int .i64 key, .slice A' idxs.length c'] 25)) (.cells #[.string name, .slice B cols.length d, .int .i64 key, .slice B' idxs.length d'] 25)
    rw [World.size_alloc] at this
    exact this
  have b0 : Below w.heap.size w W0 := by rw [hW0]; exact ((Below.refl _ _).alloc (Nat.le_refl _) _).alloc (by simp) _
  have p0 := (blk_cell x0 0).trans rfl
  have p1 := (blk_cell x0 1).trans rfl
  have p2 := (blk_cell x0 2).trans rfl
  have p3 := (blk_cell x0 3).trans rfl
  have q0 := (blk_cell y0 0).trans rfl
  have q1 := (blk_cell y0 1).trans rfl
  have q2 := (blk_cell y0 2).trans rfl
  have q3 := (blk_cell y0 3).trans rfl
  have X0 := Aside0.mk x0
  have Y0 := Aside0.mk y0
  have B0 := Aside0.mk b0
  have Z0 := Aside0.mk z0
  have HW0 := Aside0.mk hW0
  clear x0 y0 b0 z0 hW0
  have e1 : (name.toList == name.toList) = true := by simp
  have e2 : (key == key) = true := by simp
  have e3 : ((cols.length : Int) == cols.length) = true := by simp
  have e4 : ((idxs.length : Int) == idxs.length) = true := by simp
  go_enter Tryd.func7, Tryd.ntmps7
  go_wp2_with (fail)
  rw [← HW0.out]
  clear p0 p1 p2 p3 q0 q1 q2 q3
  go_loopw [42] (fun v wr => ∃ k : Nat, k ≤ cols.length ∧ v = .int .i64 k ∧ Aside0 (wr.heap[w.heap.size]? = some (.cells #[.string name, .slice A cols.length c, .int .i64 key, .slice A' idxs.length c'] 25 (0, 0))) ∧ Aside0 (wr.heap[w.heap.size + 1]? = some (.cells #[.string name, .slice B cols.length d, .int .i64 key, .slice B' idxs.length d'] 25 (0, 0))) ∧ Aside0 (Below w.heap.size w wr)) (fun v _ => cols.length - (intOf v).toNat)
  case atStart => exact ⟨0, Nat.zero_le _, rfl, ⟨X0.out⟩, ⟨Y0.out⟩, ⟨B0.out⟩⟩
  case round =>
    obtain ⟨k, hk, rfl, HX, HY, HBE⟩ := hrel
    have p1 := (blk_cell HX.out 1).trans rfl
    have q1 := (blk_cell HY.out 1).trans rfl
    by_cases hlt : k < cols.length
    · obtain ⟨ad, rfl, a0, a1, a2⟩ := at_T56 (Kd.C_below HA.out HBE.out) (k : Int) (by omega) (by omega)
      obtain ⟨bd, rfl, b0, b1, b2⟩ := at_T56 (Kd.C_below HB.out HBE.out) (k : Int) (by omega) (by omega)
      simp only [Int.toNat_natCast] at a0 a1 a2 b0 b1 b2
      obtain ⟨x, hx⟩ : ∃ x, x = rd_T56 cols (k : Int) := ⟨_, rfl⟩
      rw [← hx] at a0 a1 a2 b0 b1 b2
      clear hx
      obtain ⟨n, kd, nl⟩ := x
      simp only at a0 a1 a2 b0 b1 b2
      have e5 : (n.toList == n.toList) = true := by simp
      have e6 : (kd == kd) = true := by simp
      have e7 : (nl == nl) = true := by simp
      go_wp2_with (fail)
      go_quiet (fail)
      clear p1 q1 a0 a1 a2 b0 b1 b2
      go_wp2_with (fail)
      go_roundw
      case rel => exact ⟨k + 1, by omega, by go_num, ⟨HX.out⟩, ⟨HY.out⟩, ⟨drewN_below HBE.out _⟩⟩
      case measure => simp [intOf]; omega
    · clear p1 q1
      have p3 := (blk_cell HX.out 3).trans rfl
      go_wp2_with (fail)
      clear p3
      go_loopw [60] (fun v wr => ∃ k : Nat, k ≤ idxs.length ∧ v = .int .i64 k ∧ Aside0 (wr.heap[w.heap.size]? = some (.cells #[.string name, .slice A cols.length c, .int .i64 key, .slice A' idxs.length c'] 25 (0, 0))) ∧ Aside0 (wr.heap[w.heap.size + 1]? = some (.cells #[.string name, .slice B cols.length d, .int .i64 key, .slice B' idxs.length d'] 25 (0, 0))) ∧ Aside0 (Below w.heap.size w wr)) (fun v _ => idxs.length - (intOf v).toNat)
      case atStart => exact ⟨0, Nat.zero_le _, rfl, HX, HY, HBE⟩
      case round =>
        clear HX HY HBE hk hlt
        obtain ⟨k, hk, rfl, HX, HY, HBE⟩ := hrel
        have p3 := (blk_cell HX.out 3).trans rfl
        have q3 := (blk_cell HY.out 3).trans rfl
        by_cases hlt : k < idxs.length
        · obtain ⟨ad, L, cL, rfl, a0, a1, a2, hcl, hL⟩ := at_T40 (Kd.C_below HA'.out HBE.out) (k : Int) (by omega) (by omega)
          obtain ⟨bd, M, cM, rfl, b0, b1, b2, hcm, hM⟩ := at_T40 (Kd.C_below HB'.out HBE.out) (k : Int) (by omega) (by omega)
          simp only [Int.toNat_natCast] at a0 a1 a2 b0 b1 b2
          have hsm := HSM.out _ (getD_mem (d := noIdx) hlt)
          obtain ⟨x, hx⟩ : ∃ x, x = rd_T40 idxs (k : Int) := ⟨_, rfl⟩
          rw [show idxs.getD k noIdx = rd_T40 idxs (k : Int) from rfl] at hsm
          rw [← hx] at a0 a1 a2 b0 b1 b2 hcl hcm hL hM hsm
          clear hx
          obtain ⟨s, l, un⟩ := x
          simp only at a0 a1 a2 b0 b1 b2 hcl hcm hL hM hsm
          have HL := Aside0.mk hL
          have HM := Aside0.mk hM
          have HCL := Aside0.mk hcl
          have HCM := Aside0.mk hcm
          have HSZ := Aside0.mk hsm
          clear hL hM hcl hcm hsm
          have two : ∀ {a : Addr} {v : Value}, wr.cell? a = some v → (wr.alloc (.cells #[.string ⟨#[]⟩, .slice none 0 0, .bool false] 40)).cell? a = some v ∧ ((wr.alloc (.cells #[.string ⟨#[]⟩, .slice none 0 0, .bool false] 40)).alloc (.cells #[.string ⟨#[]⟩, .slice none 0 0, .bool false] 40)).cell? a = some v ∧ ((wr.alloc (.cells #[.string s, .slice L l.length cL, .bool un] 40)).alloc (.cells #[.string ⟨#[]⟩, .slice none 0 0, .bool false] 40)).cell? a = some v ∧ ((wr.alloc (.cells #[.string ⟨#[]⟩, .slice none 0 0, .bool false] 40)).alloc (.cells #[.string s, .slice L l.length cL, .bool un] 40)).cell? a = some v := fun {a} {v} h => by
            have h1 : ∀ o, (wr.alloc o).cell? a = some v := fun o => (World.cell?_alloc_lt wr o a (World.block_lt_of_cell? _ _ h)).trans h
            have h2 : ∀ o o', ((wr.alloc o).alloc o').cell? a = some v := fun o o' => (World.cell?_alloc_lt _ o' a (World.block_lt_of_cell? _ _ (h1 o))).trans (h1 o)
            exact ⟨h1 _, h2 _ _, h2 _ _, h2 _ _⟩
          obtain ⟨m01, m02, m03, m04⟩ := two p3
          obtain ⟨m11, m12, m13, m14⟩ := two q3
          obtain ⟨m21, m22, m23, m24⟩ := two a0
          obtain ⟨m31, m32, m33, m34⟩ := two a1
          obtain ⟨m41, m42, m43, m44⟩ := two a2
          obtain ⟨m51, m52, m53, m54⟩ := two b0
          obtain ⟨m61, m62, m63, m64⟩ := two b1
          obtain ⟨m71, m72, m73, m74⟩ := two b2
          clear two
          go_wp2_with (fail)
          go_region
          · clear m01 m02 m03 m04 m11 m12 m13 m14 m21 m22 m23 m24 m31 m32 m33 m34 m41 m42 m43 m44 m51 m52 m53 m54 m61 m62 m63 m64 m71 m72 m73 m74 p3 q3 a0 a1 a2 b0 b1 b2
            obtain ⟨W5, hW5⟩ : ∃ W5, W5 = ((wr.alloc (.cells #[.string s, .slice L l.length cL, .bool un] 40)).alloc (.cells #[.string s, .slice M l.length cM, .bool un] 40)).drew := ⟨_, rfl⟩
            have lo : W5.heap[wr.heap.size]? = some (.cells #[.string s, .slice L l.length cL, .bool un] 40 (0, 0)) := by rw [hW5]; exact (Below.heap_alloc _ _ _ (by simp)).trans (World.alloc_heap_new wr _)
            have hi : W5.heap[wr.heap.size + 1]? = some (.cells #[.string s, .slice M l.length cM, .bool un] 40 (0, 0)) := by
              rw [hW5]
              have := World.alloc_heap_new (wr.alloc (.cells #[.string s, .slice L l.length cL, .bool un] 40)) (.cells #[.string s, .slice M l.length cM, .bool un] 40)
              rw [World.size_alloc] at this
              exact this
            have b5 : Below wr.heap.size wr W5 := by rw [hW5]; exact (((Below.refl _ _).alloc (Nat.le_refl _) _).alloc (by simp) _).drew
            have f0 := (blk_cell lo 0).trans rfl
            have f1 := (blk_cell lo 1).trans rfl
            have f2 := (blk_cell lo 2).trans rfl
            have g0 := (blk_cell hi 0).trans rfl
            have g1 := (blk_cell hi 1).trans rfl
            have g2 := (blk_cell hi 2).trans rfl
            obtain ⟨K5, hK5⟩ := (ints_law l HSZ.out).some
            have HI := Aside0.mk (tidemarklaw26_sameInts.calls K5 L cL l M cM l true W5 (Kd.C_below HL.out b5) HCL.out (Kd.C_below HM.out b5) HCM.out hK5)
            have B5 := Aside0.mk b5
            rw [← hW5]
            have e8 : (s.toList == s.toList) = true := by simp
            have e9 : (un == un) = true := by simp
            clear lo hi b5 hK5 hW5
            go_wp2_with (fail)
            refine HI.out.mono ?_
            rintro e w6 ⟨rfl, nd, rfl⟩
            clear f0 f1 f2 g0 g1 g2 HI
            go_wp2_with (fail)
            go_roundw
            case rel => exact ⟨k + 1, by omega, by go_num, ⟨(B5.out.block _ (blk_lt HX.out)).trans HX.out⟩, ⟨(B5.out.block _ (blk_lt HY.out)).trans HY.out⟩, ⟨drewN_below (HBE.out.trans (B5.out.mono HBE.out.size)) _⟩⟩
            case measure => simp [intOf]; omega
          · clear m01 m02 m03 m04 m11 m12 m13 m14 m21 m22 m23 m24 m31 m32 m33 m34 m41 m42 m43 m44 m51 m52 m53 m54 m61 m62 m63 m64 m71 m72 m73 m74 p3 q3 a0 a1 a2 b0 b1 b2
            obtain ⟨W5, hW5⟩ : ∃ W5, W5 = ((wr.alloc (.cells #[.string s, .slice M l.length cM, .bool un] 40)).alloc (.cells #[.string s, .slice L l.length cL, .bool un] 40)).drew := ⟨_, rfl⟩
            have lo : W5.heap[wr.heap.size]? = some (.cells #[.string s, .slice M l.length cM, .bool un] 40 (0, 0)) := by rw [hW5]; exact (Below.heap_alloc _ _ _ (by simp)).trans (World.alloc_heap_new wr _)
            have hi : W5.heap[wr.heap.size + 1]? = some (.cells #[.string s, .slice L l.length cL, .bool un] 40 (0, 0)) := by
              rw [hW5]
              have := World.alloc_heap_new (wr.alloc (.cells #[.string s, .slice M l.length cM, .bool un] 40)) (.cells #[.string s, .slice L l.length cL, .bool un] 40)
              rw [World.size_alloc] at this
              exact this
            have b5 : Below wr.heap.size wr W5 := by rw [hW5]; exact (((Below.refl _ _).alloc (Nat.le_refl _) _).alloc (by simp) _).drew
            have f0 := (blk_cell hi 0).trans rfl
            have f1 := (blk_cell hi 1).trans rfl
            have f2 := (blk_cell hi 2).trans rfl
            have g0 := (blk_cell lo 0).trans rfl
            have g1 := (blk_cell lo 1).trans rfl
            have g2 := (blk_cell lo 2).trans rfl
            obtain ⟨K5, hK5⟩ := (ints_law l HSZ.out).some
            have HI := Aside0.mk (tidemarklaw26_sameInts.calls K5 L cL l M cM l true W5 (Kd.C_below HL.out b5) HCL.out (Kd.C_below HM.out b5) HCM.out hK5)
            have B5 := Aside0.mk b5
            rw [← hW5]
            have e8 : (s.toList == s.toList) = true := by simp
            have e9 : (un == un) = true := by simp
            clear lo hi b5 hK5 hW5
            go_wp2_with (fail)
            refine HI.out.mono ?_
            rintro e w6 ⟨rfl, nd, rfl⟩
            clear f0 f1 f2 g0 g1 g2 HI
            go_wp2_with (fail)
            go_roundw
            case rel => exact ⟨k + 1, by omega, by go_num, ⟨(B5.out.block _ (blk_lt HX.out)).trans HX.out⟩, ⟨(B5.out.block _ (blk_lt HY.out)).trans HY.out⟩, ⟨drewN_below (HBE.out.trans (B5.out.mono HBE.out.size)) _⟩⟩
            case measure => simp [intOf]; omega
        · clear p3 q3
          go_wp2_with (fail)
          go_ret
          exact ⟨rfl, HBE.out⟩
end Go.Proofs.YtfkbpjeocljflaaDoor
