/-
  table.validColumns.
-/
import Derived.Test.YtfkbpjeocljflaaDoorSeen
import Derived.Test.YtfkbpjeocljflaaDoorNameLaw
import Derived.Maps.OwnIn
import Derived.Lib.Hide
namespace Go.Proofs.YtfkbpjeocljflaaDoor
open Go Go.RowKit Go.Lib Go.Proofs.YtfkbpjeocljflaaDoor.PTableText Go.Proofs.YtfkbpjeocljflaaDoorW.PrintWords Go.Proofs.YtfkbpjeocljflaaDoorW.PrintLast Go.Proofs.YtfkbpjeocljflaaDoorW.PrintMore
set_option linter.unusedVariables false
set_option linter.unusedSimpArgs false

theorem named8 (s : ByteArray) (w : World) : Calls Tryd.prog 20 #[.string s, .int .i64 8] w fun e w' => e = .returned (.bool (nm s 8)) ∧ Below w.heap.size w w' := by
  have h := named_calls s (8 : Nat) w
  rw [isName_nm] at h
  exact h
theorem named6 (s : ByteArray) (w : World) : Calls Tryd.prog 20 #[.string s, .int .i64 6] w fun e w' => e = .returned (.bool (nm s 6)) ∧ Below w.heap.size w w' := by
  have h := named_calls s (6 : Nat) w
  rw [isName_nm] at h
  exact h
theorem put_size (w : World) (b : Nat) (o : Obj) : (w.putObj b o).heap.size = w.heap.size := by simp [World.putObj]
theorem put_below {B : Nat} {w W : World} (h : Below B w W) {b : Nat} (hb : B ≤ b) {o : Obj} : Below B w (W.putObj b o) :=
  h.trans ⟨rfl, rfl, rfl, by rw [put_size]; exact Nat.le_refl _, fun i hi => World.putObj_heap_other (by omega)⟩
def names (cols : List S56) : List ByteArray := cols.map (·.f0)
theorem names_take_succ (cols : List S56) (k : Nat) (h : k < cols.length) : names (cols.take (k + 1)) = names (cols.take k) ++ [(rd_T56 cols k).f0] := by
  unfold names rd_T56
  rw [List.take_succ_eq_append_getElem h, List.map_append, List.getD_eq_getElem?_getD]
  simp [List.getElem?_eq_getElem h]
theorem colOk_eq (cols : List S56) (key : Int) (k : Nat) : colOk cols key k = (nm (rd_T56 cols k).f0 8 && !(names (cols.take k)).any (fun y => decide (y = (rd_T56 cols k).f0)) && decide (1 ≤ (rd_T56 cols k).f1) && decide ((rd_T56 cols k).f1 ≤ 3) && !((rd_T56 cols k).f2 && decide ((k : Int) < key))) := by
  unfold colOk names
  rw [List.any_map]
  rfl
theorem colsOk_bad {cols : List S56} {key : Int} {k : Nat} (hk : k < cols.length) (h : colOk cols key k = false) : colsOk cols key = false := by
  unfold colsOk
  have : (List.range cols.length).all (colOk cols key) = false := by
    rw [List.all_eq_false]
    exact ⟨k, List.mem_range.2 hk, by rw [h]; simp⟩
  rw [this]; rfl
theorem colsOk_end {cols : List S56} {key : Int} (h : ∀ j, j < cols.length → colOk cols key j = true) : colsOk cols key = (decide (0 < cols.length) && decide (cols.length ≤ 8) && decide (0 < key) && decide (key ≤ cols.length)) := by
  unfold colsOk
  have : (List.range cols.length).all (colOk cols key) = true := List.all_eq_true.2 fun j hj => h j (List.mem_range.1 hj)
  rw [this]; rfl
theorem ret_bool {a b : Bool} (h : a = b) : Ending.returned (.bool a) = .returned (.bool b) := by rw [h]
theorem dup_any {l : List ByteArray} {s : ByteArray} (h : s ∈ l) : l.any (fun y => decide (y = s)) = true := List.any_eq_true.2 ⟨s, h, by simp⟩
theorem dup_not {l : List ByteArray} {s : ByteArray} (h : s ∉ l) : l.any (fun y => decide (y = s)) = false := by
  rw [List.any_eq_false]; intro y hy; simp; intro e; exact h (e ▸ hy)
set_option maxHeartbeats 2000000 in
set_option maxRecDepth 100000 in
theorem validColumns_calls (name : ByteArray) (cols : List S56) (key : Int) (A A' : Option Addr) (c m c' : Nat) (w : World) (hr : Kd.C k56 w A cols.length cols) : 
    Calls Tryd.prog 21 #[.agg #[.string name, .slice A cols.length c, .int .i64 key, .slice A' m c']] w fun e w' => e = .returned (.bool (colsOk cols key)) ∧ Below w.heap.size w w' := by
  have hmm := @run_makeMap Tryd.prog
  have HR := Aside0.mk hr
  have hmax : cols.length ≤ 9223372036854775807 := Kd.C_max hr
  clear hr
  go_enter Tryd.func21, Tryd.ntmps21
  go_wp2
  clear hmm
  go_loopw [10] (fun v wr => ∃ k : Nat, k ≤ cols.length ∧ v = .int .i64 k ∧ Aside0 (wr.heap[w.heap.size]? = some (.cells #[.string name, .slice A cols.length c, .int .i64 key, .slice A' m c'] 25 (0, 0))) ∧
      Aside0 (wr.heap[w.heap.size + 1]? = some (.map (seenOf (names (cols.take k))) (names (cols.take k)).length)) ∧ Aside0 (Below w.heap.size w wr) ∧ Aside0 (w.heap.size + 1 < wr.heap.size) ∧ Aside0 (∀ j, j < k → colOk cols key j = true)) (fun v _ => cols.length - (intOf v).toNat)
  case atStart =>
    refine ⟨0, Nat.zero_le _, rfl, ⟨?_⟩, ⟨?_⟩, ⟨?_⟩, ⟨?_⟩, ⟨fun j hj => by omega⟩⟩
    · exact (Below.heap_alloc _ _ _ (by simp)).trans (World.alloc_heap_new w _)
    · have := World.alloc_heap_new (w.alloc (.cells #[.string name, .slice A cols.length c, .int .i64 key, .slice A' m c'] 25)) (.map #[] 0)
      rw [World.size_alloc] at this
      exact this
    · exact ((Below.refl _ _).alloc (Nat.le_refl _) _).alloc (by simp) _
    · simp
  case round =>
    obtain ⟨k, hk, rfl, HB, HM, HE, HZ, HC⟩ := hrel
    by_cases hlt : k < cols.length
    · obtain ⟨ad, rfl, hc0, hc1, hc2⟩ := at_T56 (Kd.C_below HR.out HE.out) (k : Int) (by omega) (by omega)
      simp only [Int.toNat_natCast] at hc0 hc1 hc2
      obtain ⟨x, hx⟩ : ∃ x, x = rd_T56 cols (k : Int) := ⟨_, rfl⟩
      rw [← hx] at hc0 hc1 hc2
      have HX := Aside0.mk hx
      clear hx
      obtain ⟨s, kd, nl⟩ := x
      simp only at hc0 hc1 hc2
      have hb0 := blk_lt HB.out
      have hzr := HZ.out
      obtain ⟨W1, hW1⟩ : ∃ W1, W1 = wr.alloc (.cells #[.string s, .int .i64 kd, .bool nl] 56) := ⟨_, rfl⟩
      have x1 : W1.heap[wr.heap.size]? = some (.cells #[.string s, .int .i64 kd, .bool nl] 56 (0, 0)) := by rw [hW1]; exact World.alloc_heap_new wr _
      have b1 : W1.heap[w.heap.size]? = some (.cells #[.string name, .slice (some ad) cols.length c, .int .i64 key, .slice A' m c'] 25 (0, 0)) := by rw [hW1]; exact (Below.heap_alloc _ _ _ (by omega)).trans HB.out
      have m1 : W1.heap[w.heap.size + 1]? = some (.map (seenOf (names (cols.take k))) (names (cols.take k)).length) := by rw [hW1]; exact (Below.heap_alloc _ _ _ (by omega)).trans HM.out
      have e1 : Below w.heap.size w W1 := by rw [hW1]; exact HE.out.alloc (by omega) _
      have z1 : W1.heap.size = wr.heap.size + 1 := by rw [hW1]; simp
      have hC := colOk_eq cols key k
      rw [← HX.out] at hC
      simp only at hC
      have HCK := Aside0.mk hC
      clear hC
      by_cases hd : s ∈ names (cols.take k)
      · obtain ⟨o, ho, hu⟩ := put_old m1 hd
        have hl := look_old m1 hd
        obtain ⟨W2, hW2⟩ : ∃ W2, W2 = W1.putObj (w.heap.size + 1) o := ⟨_, rfl⟩
        rw [← hW2] at hu
        have x2 := (show W2.heap[wr.heap.size]? = W1.heap[wr.heap.size]? by rw [hW2]; exact World.putObj_heap_other (by omega)).trans x1
        have m2 : W2.heap[w.heap.size + 1]? = some o := by rw [hW2]; exact World.putObj_heap_same (by omega)
        have e2 : Below w.heap.size w W2 := by rw [hW2]; exact put_below e1 (by omega)
        have z2 : W2.heap.size = wr.heap.size + 1 := by rw [hW2, put_size]; exact z1
        have q0 := (blk_cell x2 0).trans rfl
        have X2 := Aside0.mk x2
        have M2 := Aside0.mk m2
        have E2 := Aside0.mk e2
        have Z2 := Aside0.mk z2
        rw [hW1] at hl hu
        have HD := Aside0.mk hd
        have HO := Aside0.mk ho
        clear hW1 hW2 x1 b1 m1 e1 z1 x2 m2 e2 z2 HB HM HE HZ hd HR hb0 hzr ho
        have NB : ∃ nb, nb = nm s 8 := ⟨_, rfl⟩
        obtain ⟨nb, hnb⟩ := NB
        have NB := Aside0.mk hnb
        clear hnb
        go_wp2_with (fail)
        refine (named8 s W2).mono ?_
        rintro e w3 ⟨rfl, hb3⟩
        have x3 := (hb3.block _ (by have := Z2.out; omega)).trans X2.out
        have m3 := (hb3.block _ (by have := blk_lt M2.out; omega)).trans M2.out
        have e3 := Aside0.mk (E2.out.trans (hb3.mono (by have := E2.out.size; omega)))
        have d0 := (blk_cell x3 0).trans rfl
        have hl3 := look_twice HO.out m3
        clear x3 m3 X2 M2 E2 Z2 hb3 hl hu q0 hc0 hc1 hc2
        rw [← NB.out]
        cases nb with
        | false =>
          go_wp2
          go_ret
          exact ⟨ret_bool (colsOk_bad hlt (by rw [HCK.out, ← NB.out]; simp)).symm, e3.out⟩
        | true =>
          go_wp2
          go_ret
          exact ⟨ret_bool (colsOk_bad hlt (by rw [HCK.out, dup_any HD.out]; simp)).symm, e3.out⟩
      · have hl := look_new m1 hd
        have hu := put_new m1 hd
        obtain ⟨W2, hW2⟩ : ∃ W2, W2 = W1.putObj (w.heap.size + 1) (.map (seenOf (names (cols.take k) ++ [s])) (names (cols.take k) ++ [s]).length) := ⟨_, rfl⟩
        rw [← hW2] at hu
        have x2 := (show W2.heap[wr.heap.size]? = W1.heap[wr.heap.size]? by rw [hW2]; exact World.putObj_heap_other (by omega)).trans x1
        have b2 := (show W2.heap[w.heap.size]? = W1.heap[w.heap.size]? by rw [hW2]; exact World.putObj_heap_other (by omega)).trans b1
        have m2 : W2.heap[w.heap.size + 1]? = some (.map (seenOf (names (cols.take k) ++ [s])) (names (cols.take k) ++ [s]).length) := by rw [hW2]; exact World.putObj_heap_same (by omega)
        have e2 : Below w.heap.size w W2 := by rw [hW2]; exact put_below e1 (by omega)
        have z2 : W2.heap.size = wr.heap.size + 1 := by rw [hW2, put_size]; exact z1
        have q0 := (blk_cell x2 0).trans rfl
        have X2 := Aside0.mk x2
        have B2 := Aside0.mk b2
        have M2 := Aside0.mk m2
        have E2 := Aside0.mk e2
        have Z2 := Aside0.mk z2
        rw [hW1] at hl hu
        have HD := Aside0.mk hd
        clear hW1 hW2 x1 b1 m1 e1 z1 x2 b2 m2 e2 z2 HB HM HE HZ hd HR hb0 hzr
        have NB : ∃ nb, nb = nm s 8 := ⟨_, rfl⟩
        obtain ⟨nb, hnb⟩ := NB
        have NB := Aside0.mk hnb
        clear hnb
        go_wp2_with (fail)
        refine (named8 s W2).mono ?_
        rintro e w3 ⟨rfl, hb3⟩
        have x3 := (hb3.block _ (by have := Z2.out; omega)).trans X2.out
        have b3 := (hb3.block _ (by have := Z2.out; have := blk_lt B2.out; omega)).trans B2.out
        have m3 := (hb3.block _ (by have := blk_lt M2.out; omega)).trans M2.out
        have e3 := Aside0.mk (E2.out.trans (hb3.mono (by have := E2.out.size; omega)))
        have z3 := Aside0.mk (show wr.heap.size + 1 ≤ w3.heap.size by have := hb3.size; have := Z2.out; omega)
        have d0 := (blk_cell x3 0).trans rfl
        have d1 := (blk_cell x3 1).trans rfl
        have d2 := (blk_cell x3 2).trans rfl
        have s2 := (blk_cell b3 2).trans rfl
        have hl3 := look_old m3 (List.mem_append_right _ (List.mem_singleton.2 rfl))
        have X3 := Aside0.mk x3
        have B3 := Aside0.mk b3
        have M3 := Aside0.mk m3
        clear x3 b3 m3 X2 B2 M2 E2 Z2 hb3 hl hu q0 hc0 hc1 hc2
        rw [← NB.out]
        cases nb with
        | false =>
          go_wp2
          go_ret
          exact ⟨ret_bool (colsOk_bad hlt (by rw [HCK.out, ← NB.out]; simp)).symm, e3.out⟩
        | true =>
          by_cases k1 : kd < 1
          · have t1 : decide (kd < 1) = true := decide_eq_true k1
            have K1 := Aside0.mk k1
            clear k1
            go_wp2
            go_ret
            exact ⟨ret_bool (colsOk_bad hlt (by rw [HCK.out]; have := K1.out; simp; omega)).symm, e3.out⟩
          · have t1 : decide (kd < 1) = false := decide_eq_false k1
            have K1 := Aside0.mk k1
            clear k1
            by_cases k2 : 3 < kd
            · have t2 : decide (3 < kd) = true := decide_eq_true k2
              have K2 := Aside0.mk k2
              clear k2
              go_wp2
              go_ret
              exact ⟨ret_bool (colsOk_bad hlt (by rw [HCK.out]; have := K2.out; simp; omega)).symm, e3.out⟩
            · have t2 : decide (3 < kd) = false := decide_eq_false k2
              have K2 := Aside0.mk k2
              clear k2
              cases nl with
              | false =>
                go_wp2
                go_roundw
                case rel => exact ⟨k + 1, by omega, by go_num, B3, ⟨by rw [names_take_succ cols k hlt, ← HX.out]; exact M3.out⟩, e3, ⟨by have := z3.out; have := blk_lt M3.out; omega⟩, ⟨fun j hj => by
                  by_cases e : j = k
                  · subst e; rw [HCK.out, ← NB.out, dup_not HD.out]; have := K1.out; have := K2.out; simp; omega
                  · exact HC.out j (by omega)⟩⟩
                case measure => simp [intOf]; omega
              | true =>
                by_cases k3 : (k : Int) < key
                · have t3 : decide ((k : Int) < key) = true := decide_eq_true k3
                  have K3 := Aside0.mk k3
                  clear k3
                  go_wp2
                  go_ret
                  exact ⟨ret_bool (colsOk_bad hlt (by rw [HCK.out]; have := K3.out; simp; omega)).symm, e3.out⟩
                · have t3 : decide ((k : Int) < key) = false := decide_eq_false k3
                  have K3 := Aside0.mk k3
                  clear k3
                  go_wp2
                  go_roundw
                  case rel => exact ⟨k + 1, by omega, by go_num, B3, ⟨by rw [names_take_succ cols k hlt, ← HX.out]; exact M3.out⟩, e3, ⟨by have := z3.out; have := blk_lt M3.out; omega⟩, ⟨fun j hj => by
                    by_cases e : j = k
                    · subst e; rw [HCK.out, ← NB.out, dup_not HD.out]; have := K1.out; have := K2.out; have := K3.out; simp; omega
                    · exact HC.out j (by omega)⟩⟩
                  case measure => simp [intOf]; omega
    · have hke : k = cols.length := by omega
      have KE := Aside0.mk hke
      clear hke
      have s1 := (blk_cell HB.out 1).trans rfl
      have s2 := (blk_cell HB.out 2).trans rfl
      have hF := colsOk_end (fun j hj => HC.out j (by have := KE.out; omega))
      have HF := Aside0.mk hF
      clear hF
      by_cases g1 : 0 < cols.length
      · have u1 : decide (0 < cols.length) = true := decide_eq_true g1
        have u1' : decide ((0 : Int) < cols.length) = true := decide_eq_true (by omega)
        by_cases g2 : cols.length ≤ 8
        · have u2 : decide ((cols.length : Int) ≤ 8) = true := decide_eq_true (by omega)
          by_cases g3 : 0 < key
          · have u3 : decide (0 < key) = true := decide_eq_true g3
            have G := Aside0.mk (And.intro g1 (And.intro g2 g3))
            clear g1 g2 g3
            go_wp2
            go_ret
            exact ⟨ret_bool (by rw [HF.out]; have := G.out; simp [this]), HE.out⟩
          · have u3 : decide (0 < key) = false := decide_eq_false g3
            have G := Aside0.mk (And.intro g1 (And.intro g2 g3))
            clear g1 g2 g3
            go_wp2
            go_ret
            exact ⟨ret_bool (by rw [HF.out, decide_eq_false (show ¬ 0 < key by have := G.out.2.2; omega)]; simp), HE.out⟩
        · have u2 : decide ((cols.length : Int) ≤ 8) = false := decide_eq_false (by omega)
          have G := Aside0.mk (And.intro g1 g2)
          clear g1 g2
          go_wp2
          go_ret
          exact ⟨ret_bool (by rw [HF.out]; have := G.out; simp [this]), HE.out⟩
      · have u1 : decide (0 < cols.length) = false := decide_eq_false g1
        have u1' : decide ((0 : Int) < cols.length) = false := decide_eq_false (by omega)
        have G := Aside0.mk g1
        clear g1
        go_wp2
        go_ret
        exact ⟨ret_bool (by rw [HF.out]; have := G.out; simp [this]), HE.out⟩
end Go.Proofs.YtfkbpjeocljflaaDoor
