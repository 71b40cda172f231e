/-
  table.valid.
-/
import Derived.Test.YtfkbpjeocljflaaDoorValidCols
namespace Go.Proofs.YtfkbpjeocljflaaDoor
open Go Go.RowKit Go.Lib Go.Proofs.YtfkbpjeocljflaaDoor.PTableText Go.Proofs.YtfkbpjeocljflaaDoorW.PrintWords Go.Proofs.YtfkbpjeocljflaaDoorW.PrintLast Go.Proofs.YtfkbpjeocljflaaDoorW.PrintMore
set_option linter.unusedVariables false
set_option linter.unusedSimpArgs false

theorem cell_put {w : World} {b : Nat} {es : Array MapEntry} {clock : Nat} {o : Obj} (hb : w.heap[b]? = some (.map es clock)) {a : Addr} {v : Value} (h : w.cell? a = some v) : (w.putObj b o).cell? a = some v := by
  have hne : a.block ≠ b := fun e => by
    unfold World.cell? at h
    rw [e, hb] at h
    cases h
  rw [← h]
  unfold World.cell?
  rw [World.putObj_heap_other hne]
theorem spot_none {w : World} {a : Addr} {v : Value} (h : w.cell? a = some v) : a.spot = none := by
  unfold World.cell? at h
  split at h
  · split at h
    · cases h
    · rename_i hs
      cases hq : a.spot with
      | none => rfl
      | some x => rw [hq] at hs; simp at hs
  · cases h

theorem contains_calls (A : Option Addr) (n c : Nat) (l : List Int) (v : Int) (w : World) (hn : l.length = n) (hC : (Kd.int .i64).C w A n l) :
    Calls Tryd.prog 22 #[.slice A n c, .int .i64 v] w fun e w' => e = .returned (.bool (l.contains v)) ∧ w' = w := by
  by_cases h0 : n = 0
  · subst h0
    obtain rfl : l = [] := List.eq_nil_of_length_eq_zero hn
    exact Tryd.slices_Contains_int_empty A c v w
  · obtain ⟨ad, rfl, hc⟩ := Kd.at_int hC 0 (by omega) (by omega)
    have hs := spot_none hc
    have hs' : ad.spot = none := by simpa [Addr.add] using hs
    obtain ⟨b, off, sp⟩ := ad
    simp only at hs'
    subst hs'
    have h := Tryd.slices_Contains_int b off n c l v w (by omega) (Kd.C_max hC) (fun j hj => by
      obtain ⟨ad, e, hc⟩ := Kd.at_int hC (j : Int) (by omega) (by omega)
      injection e with e
      subst e
      rw [Int.toNat_natCast, add_at] at hc
      simpa [rd] using hc)
    rwa [List.take_of_length_le (by omega)] at h

theorem idxNames_take_succ (idxs : List S40) (k : Nat) (h : k < idxs.length) : (idxs.take (k + 1)).map (·.f0) = (idxs.take k).map (·.f0) ++ [(rd_T40 idxs k).f0] := by
  unfold rd_T40
  rw [List.take_succ_eq_append_getElem h, List.map_append, List.getD_eq_getElem?_getD]
  simp [List.getElem?_eq_getElem h]
def inames (idxs : List S40) : List ByteArray := idxs.map (·.f0)
theorem inames_take_succ (idxs : List S40) (k : Nat) (h : k < idxs.length) : inames (idxs.take (k + 1)) = inames (idxs.take k) ++ [(rd_T40 idxs k).f0] := idxNames_take_succ idxs k h
theorem idxOk_eq (idxs : List S40) (n : Nat) (k : Nat) : idxOk idxs n k = (nm (rd_T40 idxs k).f0 8 && !(inames (idxs.take k)).any (fun y => decide (y = (rd_T40 idxs k).f0)) && placesOk (rd_T40 idxs k).f1 n) := by
  unfold idxOk inames
  rw [List.any_map]
  rfl
theorem idxsOk_bad {idxs : List S40} {n : Nat} {k : Nat} (hk : k < idxs.length) (h : idxOk idxs n k = false) : idxsOk idxs n = false := by
  unfold idxsOk
  have : (List.range idxs.length).all (idxOk idxs n) = false := by
    rw [List.all_eq_false]
    exact ⟨k, List.mem_range.2 hk, by rw [h]; simp⟩
  rw [this]; simp
theorem idxsOk_end {idxs : List S40} {n : Nat} (h4 : idxs.length ≤ 4) (h : ∀ j, j < idxs.length → idxOk idxs n j = true) : idxsOk idxs n = true := by
  unfold idxsOk
  have : (List.range idxs.length).all (idxOk idxs n) = true := List.all_eq_true.2 fun j hj => h j (List.mem_range.1 hj)
  rw [this]; simp [h4]
theorem idxsOk_many {idxs : List S40} {n : Nat} (h : 4 < idxs.length) : idxsOk idxs n = false := by
  unfold idxsOk
  rw [decide_eq_false (by omega)]; rfl
theorem placesOk_bad {l : List Int} {n : Nat} {k : Nat} (hk : k < l.length) (h : placeOk l n k = false) : placesOk l n = false := by
  unfold placesOk
  have : (List.range l.length).all (placeOk l n) = false := by
    rw [List.all_eq_false]
    exact ⟨k, List.mem_range.2 hk, by rw [h]; simp⟩
  rw [this]; simp
theorem placesOk_end {l : List Int} {n : Nat} (h0 : 0 < l.length) (h : ∀ j, j < l.length → placeOk l n j = true) : placesOk l n = true := by
  unfold placesOk
  have : (List.range l.length).all (placeOk l n) = true := List.all_eq_true.2 fun j hj => h j (List.mem_range.1 hj)
  rw [this]; simp [h0]
theorem placesOk_none {l : List Int} {n : Nat} (h0 : l.length = 0) : placesOk l n = false := by
  unfold placesOk
  rw [decide_eq_false (by omega)]; rfl
theorem placeOk_eq (l : List Int) (n k : Nat) : placeOk l n k = (decide (0 ≤ rd l k) && decide (rd l k < (n : Int)) && !((l.take k).contains (rd l k))) := rfl

set_option maxHeartbeats 4000000 in
set_option maxRecDepth 100000 in
theorem valid_calls (name : ByteArray) (cols : List S56) (key : Int) (idxs : List S40) (A A' : Option Addr) (c c' : Nat) (w : World) (hr : Kd.C k56 w A cols.length cols) (hx : Kd.C k40 w A' idxs.length idxs) : 
    Calls Tryd.prog 8 #[.agg #[.string name, .slice A cols.length c, .int .i64 key, .slice A' idxs.length c']] w fun e w' => e = .returned (.bool (Sch.ok ⟨name, cols, key, idxs⟩)) ∧ Below w.heap.size w w' := by
  have hmm := @run_makeMap Tryd.prog
  have HR := Aside0.mk hr
  have HX := Aside0.mk hx
  have hmax : idxs.length ≤ 9223372036854775807 := Kd.C_max hx
  have hmaxc : cols.length ≤ 9223372036854775807 := Kd.C_max hr
  clear hr hx
  have hok := Aside0.mk (show Sch.ok ⟨name, cols, key, idxs⟩ = (nm name 6 && colsOk cols key && idxsOk idxs cols.length) from rfl)
  obtain ⟨W0, hW0⟩ : ∃ W0, W0 = w.alloc (.cells #[.string name, .slice A cols.length c, .int .i64 key, .slice A' idxs.length c'] 25) := ⟨_, rfl⟩
  have b0 : W0.heap[w.heap.size]? = some (.cells #[.string name, .slice A cols.length c, .int .i64 key, .slice A' idxs.length c'] 25 (0, 0)) := by rw [hW0]; exact World.alloc_heap_new w _
  have e0 : Below w.heap.size w W0 := by rw [hW0]; exact (Below.refl _ _).alloc (Nat.le_refl _) _
  have z0 : W0.heap.size = w.heap.size + 1 := by rw [hW0]; simp
  obtain ⟨na, hna⟩ : ∃ na, na = nm name 6 := ⟨_, rfl⟩
  have NA := Aside0.mk hna
  obtain ⟨nc, hnc⟩ : ∃ nc, nc = colsOk cols key := ⟨_, rfl⟩
  have NC := Aside0.mk hnc
  clear hna hnc
  have B0 := Aside0.mk b0
  have E0 := Aside0.mk e0
  have Z0 := Aside0.mk z0
  have HW0 := Aside0.mk hW0
  clear b0 e0 z0 hW0
  go_enter Tryd.func8, Tryd.ntmps8
  go_wp2_with (fail)
  rw [← HW0.out]
  refine (named6 name W0).mono ?_
  rintro e w1 ⟨rfl, hb1⟩
  have b1 := (hb1.block _ (by have := Z0.out; omega)).trans B0.out
  have E1 := Aside0.mk (E0.out.trans (hb1.mono (by have := E0.out.size; omega)))
  have Z1 := Aside0.mk (show w.heap.size + 1 ≤ w1.heap.size by have := hb1.size; have := Z0.out; omega)
  have B1 := Aside0.mk b1
  have c0 := (blk_cell b1 0).trans rfl
  have c1 := (blk_cell b1 1).trans rfl
  have c2 := (blk_cell b1 2).trans rfl
  have c3 := (blk_cell b1 3).trans rfl
  clear b1 hb1
  rw [← NA.out]
  cases na with
  | false =>
    go_wp2
    go_ret
    exact ⟨ret_bool (by rw [hok.out, ← NA.out]; rfl), E1.out⟩
  | true =>
    go_wp2_with (fail)
    refine (validColumns_calls name cols key A A' c idxs.length c' w1 (Kd.C_below HR.out E1.out)).mono ?_
    rintro e w2 ⟨rfl, hb2⟩
    have b2 := (hb2.block _ (by have := Z1.out; omega)).trans B1.out
    have E2 := Aside0.mk (E1.out.trans (hb2.mono (by have := E1.out.size; omega)))
    have Z2 := Aside0.mk (show w.heap.size + 1 ≤ w2.heap.size by have := hb2.size; have := Z1.out; omega)
    have B2 := Aside0.mk b2
    clear c0 c1 c2 c3
    have c3 := (blk_cell b2 3).trans rfl
    clear b2 hb2
    rw [← NC.out]
    cases nc with
    | false =>
      go_wp2
      go_ret
      exact ⟨ret_bool (by rw [hok.out, ← NA.out, ← NC.out]; rfl), E2.out⟩
    | true =>
      by_cases h4 : 4 < idxs.length
      · have t4 : decide ((4 : Int) < idxs.length) = true := decide_eq_true (by omega)
        have H4 := Aside0.mk h4
        clear h4
        go_wp2
        go_ret
        exact ⟨ret_bool (by rw [hok.out, idxsOk_many H4.out, Bool.and_false]), E2.out⟩
      · have t4 : decide ((4 : Int) < idxs.length) = false := decide_eq_false (by omega)
        have H4 := Aside0.mk h4
        clear h4
        have c3' := (World.cell?_alloc_lt w2 (.map #[] 0) ⟨w.heap.size, 3, none⟩ (by have := Z2.out; exact this)).trans c3
        go_wp2
        clear hmm c3 c3'
        go_loopw [27] (fun v wr => ∃ k : Nat, k ≤ idxs.length ∧ v = .int .i64 k ∧ Aside0 (wr.heap[w.heap.size]? = some (.cells #[.string name, .slice A cols.length c, .int .i64 key, .slice A' idxs.length c'] 25 (0, 0))) ∧
            Aside0 (wr.heap[w2.heap.size]? = some (.map (seenOf (inames (idxs.take k))) (inames (idxs.take k)).length)) ∧ Aside0 (Below w.heap.size w wr) ∧ Aside0 (w.heap.size < w2.heap.size ∧ w2.heap.size < wr.heap.size) ∧ Aside0 (∀ j, j < k → idxOk idxs cols.length j = true)) (fun v _ => idxs.length - (intOf v).toNat)
        case atStart =>
          refine ⟨0, Nat.zero_le _, rfl, ⟨?_⟩, ⟨?_⟩, ⟨?_⟩, ⟨?_⟩, ⟨fun j hj => by omega⟩⟩
          · exact (Below.heap_alloc _ _ _ (by have := Z2.out; omega)).trans B2.out
          · exact World.alloc_heap_new w2 _
          · exact E2.out.alloc (by have := Z2.out; omega) _
          · have := Z2.out; simp; omega
        case round =>
          obtain ⟨k, hk, rfl, HB, HM, HE, HZ, HC⟩ := hrel
          by_cases hlt : k < idxs.length
          · obtain ⟨ad, L, cL, rfl, hc0, hc1, hc2, hcl, hL⟩ := at_T40 (Kd.C_below HX.out HE.out) (k : Int) (by omega) (by omega)
            simp only [Int.toNat_natCast] at hc0 hc1 hc2
            obtain ⟨x, hxx⟩ : ∃ x, x = rd_T40 idxs (k : Int) := ⟨_, rfl⟩
            rw [← hxx] at hc0 hc1 hc2 hL hcl
            have HXX := Aside0.mk hxx
            clear hxx
            obtain ⟨s, l, un⟩ := x
            simp only at hc0 hc1 hc2 hL hcl
            have hlmax : l.length ≤ 9223372036854775807 := Kd.C_max hL
            have HL := Aside0.mk hL
            have HCL := Aside0.mk hcl
            clear hL hcl
            have hb0 := blk_lt HB.out
            have hzr := HZ.out
            obtain ⟨W1, hW1⟩ : ∃ W1, W1 = wr.alloc (.cells #[.string s, .slice L l.length cL, .bool un] 40) := ⟨_, rfl⟩
            have x1 : W1.heap[wr.heap.size]? = some (.cells #[.string s, .slice L l.length cL, .bool un] 40 (0, 0)) := by rw [hW1]; exact World.alloc_heap_new wr _
            have b1 : W1.heap[w.heap.size]? = some (.cells #[.string name, .slice A cols.length c, .int .i64 key, .slice (some ad) idxs.length c'] 25 (0, 0)) := by rw [hW1]; exact (Below.heap_alloc _ _ _ (by omega)).trans HB.out
            have m1 : W1.heap[w2.heap.size]? = some (.map (seenOf (inames (idxs.take k))) (inames (idxs.take k)).length) := by rw [hW1]; exact (Below.heap_alloc _ _ _ (by omega)).trans HM.out
            have e1 : Below w.heap.size w W1 := by rw [hW1]; exact HE.out.alloc (by omega) _
            have g1 : Below wr.heap.size wr W1 := by rw [hW1]; exact (Below.refl _ _).alloc (Nat.le_refl _) _
            have z1 : W1.heap.size = wr.heap.size + 1 := by rw [hW1]; simp
            have hC := idxOk_eq idxs cols.length k
            rw [← HXX.out] at hC
            simp only at hC
            have HCK := Aside0.mk hC
            clear hC
            have HL1 := Aside0.mk (Kd.C_below HL.out g1)
            have NB : ∃ nb, nb = nm s 8 := ⟨_, rfl⟩
            obtain ⟨nb, hnb⟩ := NB
            have NB := Aside0.mk hnb
            clear hnb g1 HL
            by_cases hd : s ∈ inames (idxs.take k)
            · obtain ⟨o, ho, hu⟩ := put_old m1 hd
              have hl := look_old m1 hd
              obtain ⟨W2, hW2⟩ : ∃ W2, W2 = W1.putObj w2.heap.size o := ⟨_, rfl⟩
              rw [← hW2] at hu
              have x2 := (show W2.heap[wr.heap.size]? = W1.heap[wr.heap.size]? by rw [hW2]; exact World.putObj_heap_other (by omega)).trans x1
              have m2 : W2.heap[w2.heap.size]? = some o := by rw [hW2]; exact World.putObj_heap_same (by omega)
              have e2 : Below w.heap.size w W2 := by rw [hW2]; exact put_below e1 (by omega)
              have z2 : W2.heap.size = wr.heap.size + 1 := by rw [hW2, put_size]; exact z1
              have q0 := (blk_cell x2 0).trans rfl
              have X2 := Aside0.mk x2
              have M2 := Aside0.mk m2
              have E2' := Aside0.mk e2
              have Z2' := Aside0.mk z2
              rw [hW1] at hl hu
              have HD := Aside0.mk hd
              have HO := Aside0.mk ho
              clear hW1 hW2 x1 b1 m1 e1 z1 x2 m2 e2 z2 HB HM HE HZ hd hb0 hzr ho
              go_wp2_with (fail)
              refine (named8 s W2).mono ?_
              rintro e w3 ⟨rfl, hb3⟩
              have x3 := (hb3.block _ (by have := Z2'.out; omega)).trans X2.out
              have m3 := (hb3.block _ (by have := blk_lt M2.out; omega)).trans M2.out
              have e3 := Aside0.mk (E2'.out.trans (hb3.mono (by have := E2'.out.size; omega)))
              have d0 := (blk_cell x3 0).trans rfl
              have hl3 := look_twice HO.out m3
              clear x3 m3 X2 M2 E2' Z2' hb3 hl hu q0 hc0 hc1 hc2
              rw [← NB.out]
              cases nb with
              | false =>
                go_wp2
                go_ret
                exact ⟨ret_bool (by rw [hok.out, idxsOk_bad hlt (by rw [HCK.out, ← NB.out]; simp)]; simp), e3.out⟩
              | true =>
                go_wp2
                go_ret
                exact ⟨ret_bool (by rw [hok.out, idxsOk_bad hlt (by rw [HCK.out, dup_any HD.out]; simp)]; simp), e3.out⟩
            · have hl := look_new m1 hd
              have hu := put_new m1 hd
              obtain ⟨W2, hW2⟩ : ∃ W2, W2 = W1.putObj w2.heap.size (.map (seenOf (inames (idxs.take k) ++ [s])) (inames (idxs.take k) ++ [s]).length) := ⟨_, rfl⟩
              rw [← hW2] at hu
              have x2 := (show W2.heap[wr.heap.size]? = W1.heap[wr.heap.size]? by rw [hW2]; exact World.putObj_heap_other (by omega)).trans x1
              have b2 := (show W2.heap[w.heap.size]? = W1.heap[w.heap.size]? by rw [hW2]; exact World.putObj_heap_other (by omega)).trans b1
              have m2 : W2.heap[w2.heap.size]? = some (.map (seenOf (inames (idxs.take k) ++ [s])) (inames (idxs.take k) ++ [s]).length) := by rw [hW2]; exact World.putObj_heap_same (by omega)
              have e2 : Below w.heap.size w W2 := by rw [hW2]; exact put_below e1 (by omega)
              have z2 : W2.heap.size = wr.heap.size + 1 := by rw [hW2, put_size]; exact z1
              have l2 : (Kd.int .i64).C W2 L l.length l := by
                refine ⟨HL1.out.1, HL1.out.2.1, fun hp => ?_⟩
                obtain ⟨ad, e, hc⟩ := HL1.out.2.2 hp
                refine ⟨ad, e, fun j p hj => ?_⟩
                obtain ⟨cc, h1, h2, h3⟩ := hc j p hj
                refine ⟨cc, h1, h2, fun i u hu => ?_⟩
                have := h3 i u hu
                rw [hW2]
                exact cell_put m1 this
              have q0 := (blk_cell x2 0).trans rfl
              have X2 := Aside0.mk x2
              have BB2 := Aside0.mk b2
              have M2 := Aside0.mk m2
              have E2' := Aside0.mk e2
              have Z2' := Aside0.mk z2
              have L2 := Aside0.mk l2
              rw [hW1] at hl hu
              have HD := Aside0.mk hd
              clear hW1 hW2 x1 b1 m1 e1 z1 x2 b2 m2 e2 z2 HB HM HE hd hb0 hzr l2 HL1
              go_wp2_with (fail)
              refine (named8 s W2).mono ?_
              rintro e w3 ⟨rfl, hb3⟩
              have x3 := (hb3.block _ (by have := Z2'.out; omega)).trans X2.out
              have b3 := (hb3.block _ (by have := Z2'.out; have := blk_lt BB2.out; omega)).trans BB2.out
              have m3 := (hb3.block _ (by have := blk_lt M2.out; omega)).trans M2.out
              have e3 := Aside0.mk (E2'.out.trans (hb3.mono (by have := E2'.out.size; omega)))
              have z3 := Aside0.mk (show wr.heap.size + 1 ≤ w3.heap.size by have := hb3.size; have := Z2'.out; omega)
              have L3 := Aside0.mk (Kd.C_below L2.out hb3)
              have d0 := (blk_cell x3 0).trans rfl
              have d1 := (blk_cell x3 1).trans rfl
              have s1 := (blk_cell b3 1).trans rfl
              have hl3 := look_old m3 (List.mem_append_right _ (List.mem_singleton.2 rfl))
              have X3 := Aside0.mk x3
              have B3 := Aside0.mk b3
              have M3 := Aside0.mk m3
              clear x3 b3 m3 X2 BB2 M2 E2' Z2' hb3 hl hu q0 hc0 hc1 hc2 L2
              rw [← NB.out]
              cases nb with
              | false =>
                go_wp2
                go_ret
                exact ⟨ret_bool (by rw [hok.out, idxsOk_bad hlt (by rw [HCK.out, ← NB.out]; simp)]; simp), e3.out⟩
              | true =>
                by_cases hl0 : l.length = 0
                · have t0 : ((l.length : Int) == 0) = true := by simp [hl0]
                  have HL0 := Aside0.mk hl0
                  clear hl0
                  go_wp2
                  go_ret
                  exact ⟨ret_bool (by rw [hok.out, idxsOk_bad hlt (by rw [HCK.out, placesOk_none HL0.out]; simp)]; simp), e3.out⟩
                · have t0 : ((l.length : Int) == 0) = false := by simp; exact fun e => hl0 (by rw [e]; rfl)
                  have HL0 := Aside0.mk hl0
                  clear hl0
                  go_wp2
                  clear hl3
                  go_loop [56] (fun v => ∃ i : Nat, i ≤ l.length ∧ v = .int .i64 i ∧ Aside0 (∀ j, j < i → placeOk l cols.length j = true)) (fun v => l.length - (intOf v).toNat)
                  case atStart => exact ⟨0, Nat.zero_le _, rfl, ⟨fun j hj => by omega⟩⟩
                  case round =>
                    obtain ⟨i, hi, rfl, HI⟩ := hrel
                    by_cases hil : i < l.length
                    · obtain ⟨al, rfl, hci⟩ := Kd.at_int L3.out (i : Int) (by omega) (by omega)
                      simp only [Int.toNat_natCast] at hci
                      obtain ⟨p, hp⟩ : ∃ p, p = rd l (i : Int) := ⟨_, rfl⟩
                      rw [← hp] at hci
                      have HPK := Aside0.mk (placeOk_eq l cols.length i)
                      rw [← hp] at HPK
                      clear hp
                      by_cases p1 : p < 0
                      · have t1 : decide (p < 0) = true := decide_eq_true p1
                        have P1 := Aside0.mk p1
                        clear p1
                        go_wp2
                        go_ret
                        exact ⟨ret_bool (by rw [hok.out, idxsOk_bad hlt (by rw [HCK.out, placesOk_bad hil (by rw [HPK.out, decide_eq_false (by have := P1.out; omega)]; simp)]; simp)]; simp), e3.out⟩
                      · have t1 : decide (p < 0) = false := decide_eq_false p1
                        have P1 := Aside0.mk p1
                        clear p1
                        by_cases p2 : (cols.length : Int) ≤ p
                        · have t2 : decide ((cols.length : Int) ≤ p) = true := decide_eq_true p2
                          have P2 := Aside0.mk p2
                          clear p2
                          go_wp2
                          go_ret
                          exact ⟨ret_bool (by rw [hok.out, idxsOk_bad hlt (by rw [HCK.out, placesOk_bad hil (by rw [HPK.out, decide_eq_false (show ¬ p < (cols.length : Int) by have := P2.out; omega)]; simp)]; simp)]; simp), e3.out⟩
                        · have t2 : decide ((cols.length : Int) ≤ p) = false := decide_eq_false p2
                          have P2 := Aside0.mk p2
                          clear p2
                          have hcap : i ≤ cL := by have := HCL.out; omega
                          have htk : (l.take i).length = i := by rw [List.length_take]; omega
                          have hCi := Kd.C_take L3.out (show i ≤ l.length by omega)
                          rw [htk] at hCi
                          have HCi := Aside0.mk hCi
                          have HTK := Aside0.mk htk
                          clear hCi htk
                          obtain ⟨q, hq⟩ : ∃ q, q = (l.take i).contains p := ⟨_, rfl⟩
                          have HQ := Aside0.mk hq
                          clear hq
                          go_wp2_with (fail)
                          refine (contains_calls (some al) i cL (l.take i) p w3 HTK.out HCi.out).mono ?_
                          rintro e w4 ⟨rfl, rfl⟩
                          rw [← HQ.out]
                          cases q with
                          | true =>
                            go_wp2
                            go_ret
                            exact ⟨ret_bool (by rw [hok.out, idxsOk_bad hlt (by rw [HCK.out, placesOk_bad hil (by rw [HPK.out, ← HQ.out]; simp)]; simp)]; simp), e3.out⟩
                          | false =>
                            go_wp2
                            go_round
                            case rel => exact ⟨i + 1, by omega, by go_num, ⟨fun j hj => by
                              by_cases e : j = i
                              · subst e; rw [HPK.out, ← HQ.out]; have := P1.out; have := P2.out; simp; omega
                              · exact HI.out j (by omega)⟩⟩
                            case measure => simp [intOf]; omega
                    · have HPL := Aside0.mk (placesOk_end (l := l) (n := cols.length) (by have := HL0.out; omega) (fun j hj => HI.out j (by omega)))
                      go_wp2
                      go_roundw
                      case rel => exact ⟨k + 1, by omega, by go_num, B3, ⟨by rw [inames_take_succ idxs k hlt, ← HXX.out]; exact M3.out⟩, e3, ⟨by have := z3.out; have := HZ.out; omega⟩, ⟨fun j hj => by
                        by_cases e : j = k
                        · subst e; rw [HCK.out, ← NB.out, dup_not HD.out, HPL.out]; rfl
                        · exact HC.out j (by omega)⟩⟩
                      case measure => simp [intOf]; omega
          · go_wp2
            go_ret
            exact ⟨ret_bool (by rw [hok.out, ← NA.out, ← NC.out, idxsOk_end (by have := H4.out; omega) (fun j hj => HC.out j (by omega))]; rfl), HE.out⟩
end Go.Proofs.YtfkbpjeocljflaaDoor
