/-
  What the reference says of a schema is what the plain law says: names, columns, places, indexes.
-/
import Derived.Test.YtfkbpjeocljflaaDoorPTableTextx0
import Derived.Test.YtfkbpjeocljflaaDoorRefValid
import Derived.Test.YtfkbpjeocljflaaDoorSchema
/-
  Cut out of the printed texts (cut-refs.py).
-/
namespace Go.Proofs.YtfkbpjeocljflaaDoor.PTableText
open Go.RowKit Go.Proofs.YtfkbpjeocljflaaDoorW.PrintWords Go.Proofs.YtfkbpjeocljflaaDoorW.PrintLast Go.Proofs.YtfkbpjeocljflaaDoorW.PrintMore
attribute [local go_sem] max2_int min2_int max_two min_two max_three min_three max_four min_four   -- for this text's walks alone
set_option linter.unusedVariables false
set_option linter.unusedSimpArgs false
-- NOT PRINTED: function 65 (stringslite_Index)

-- NOT PRINTED: function 50 (strings_Index)

-- NOT PRINTED: function 64 (bytealg_CountString)

-- NOT PRINTED: function 49 (strings_Count)

-- NOT PRINTED: function 30 (strings_genSplit)

-- NOT PRINTED: function 15 (strings_Split)

/-! ### stringslite_HasSuffix: function 51 -/
def stringslite_HasSuffix.f (a0 : ByteArray) (a1 : ByteArray) : Option (Bool) := if (a0.size : Int) ≥ (a1.size : Int) then (if 0 ≤ (wrap64 ((a0.size : Int) - (a1.size : Int))) then (if (wrap64 ((a0.size : Int) - (a1.size : Int))) ≤ (a0.size : Int) then (some ((a0.extract ((wrap64 ((a0.size : Int) - (a1.size : Int))) : Int).toNat a0.size).toList == a1.toList)) else (none)) else (none)) else (some false)
set_option maxHeartbeats 8000000 in
set_option maxRecDepth 100000 in
theorem stringslite_HasSuffix.calls (a0 : ByteArray) (a1 : ByteArray) (r : Bool) (w : World) (h : stringslite_HasSuffix.f a0 a1 = some r) :
    Calls Tryd.prog 51 #[.string a0, .string a1] w fun e w' => e = .returned (.bool r) ∧ Drawn0 w w' := by
  have H : (if (a0.size : Int) ≥ (a1.size : Int) then (if 0 ≤ (wrap64 ((a0.size : Int) - (a1.size : Int))) then (if (wrap64 ((a0.size : Int) - (a1.size : Int))) ≤ (a0.size : Int) then (some ((a0.extract ((wrap64 ((a0.size : Int) - (a1.size : Int))) : Int).toNat a0.size).toList == a1.toList)) else (none)) else (none)) else (some false)) = some r := h
  clear h
  by_cases c3 : (a0.size : Int) ≥ (a1.size : Int)
  · rw [if_pos c3] at H
    have c3b0 : decide ((a1.size : Int) ≤ (a0.size : Int)) = true := decide_eq_true c3
    have c3b1 : decide (a1.size ≤ a0.size) = true := decide_eq_true (Int.ofNat_le.mp c3)
    clear c3
    obtain ⟨ji4, hji4⟩ : ∃ j_ : Int, (wrap64 ((a0.size : Int) - (a1.size : Int))) = j_ := ⟨_, rfl⟩
    replace H : (if 0 ≤ (ji4) then (if (ji4) ≤ (a0.size : Int) then (some ((a0.extract ((ji4) : Int).toNat a0.size).toList == a1.toList)) else (none)) else (none)) = some r := by first | (rw [hji4] at H; exact H) | (simp only [hji4] at H ⊢; exact H)
    have hji4w : (IntKind.i64.wrap ((a0.size : Int) - (a1.size : Int))) = ji4 := (i64_w _).trans hji4
    by_cases c5 : 0 ≤ (ji4)
    · rw [if_pos c5] at H
      have c5b0 := eq_true c5
      have c5b1 : decide (0 ≤ (ji4)) = true := decide_eq_true c5
      clear c5
      by_cases c6 : (ji4) ≤ (a0.size : Int)
      · rw [if_pos c6] at H
        have c6b0 := eq_true c6
        have c6b1 : decide ((ji4) ≤ (a0.size : Int)) = true := decide_eq_true c6
        clear c6
        obtain rfl := Option.some.inj H
        go_enter Tryd.func51, Tryd.ntmps51
        go_wp2
        go_ret
        exact ⟨by first | rfl | (simp; done) | (simp only [← hji4] <;> (first | rfl | simp)) | (simp [*]; done), by repeat (first | exact Drawn0.refl _ | apply Drawn0.step)⟩
      · rw [if_neg c6] at H
        exact absurd H (by simp)
    · rw [if_neg c5] at H
      exact absurd H (by simp)
  · rw [if_neg c3] at H
    have c3b0 : decide ((a1.size : Int) ≤ (a0.size : Int)) = false := decide_eq_false c3
    have c3b1 : decide (a1.size ≤ a0.size) = false := decide_eq_false (fun h => c3 (Int.ofNat_le.mpr h))
    clear c3
    obtain rfl := Option.some.inj H
    go_enter Tryd.func51, Tryd.ntmps51
    go_wp2
    go_ret
    exact ⟨by first | rfl | (simp; done) | (simp [*]; done), by repeat (first | exact Drawn0.refl _ | apply Drawn0.step)⟩

/-! ### stringslite_TrimSuffix: function 31 -/
def stringslite_TrimSuffix.f (a0 : ByteArray) (a1 : ByteArray) : Option (ByteArray) := (stringslite_HasSuffix.f a0 a1).bind fun t145 => (if t145 = true then (if 0 ≤ (wrap64 ((a0.size : Int) - (a1.size : Int))) then (if (wrap64 ((a0.size : Int) - (a1.size : Int))) ≤ (a0.size : Int) then (some (a0.extract 0 ((wrap64 ((a0.size : Int) - (a1.size : Int))) : Int).toNat)) else (none)) else (none)) else (some a0))
set_option maxHeartbeats 8000000 in
set_option maxRecDepth 100000 in
theorem stringslite_TrimSuffix.calls (a0 : ByteArray) (a1 : ByteArray) (r : ByteArray) (w : World) (h : stringslite_TrimSuffix.f a0 a1 = some r) :
    Calls Tryd.prog 31 #[.string a0, .string a1] w fun e w' => e = .returned (.string r) ∧ Drawn0 w w' := by
  have H : ((stringslite_HasSuffix.f a0 a1).bind fun t145 => (if t145 = true then (if 0 ≤ (wrap64 ((a0.size : Int) - (a1.size : Int))) then (if (wrap64 ((a0.size : Int) - (a1.size : Int))) ≤ (a0.size : Int) then (some (a0.extract 0 ((wrap64 ((a0.size : Int) - (a1.size : Int))) : Int).toNat)) else (none)) else (none)) else (some a0))) = some r := h
  clear h
  replace H := Option.bind_eq_some_iff.mp H
  obtain ⟨t145, A30, H⟩ := H
  replace H : (if t145 = true then (if 0 ≤ (wrap64 ((a0.size : Int) - (a1.size : Int))) then (if (wrap64 ((a0.size : Int) - (a1.size : Int))) ≤ (a0.size : Int) then (some (a0.extract 0 ((wrap64 ((a0.size : Int) - (a1.size : Int))) : Int).toNat)) else (none)) else (none)) else (some a0)) = some r := H
  have A3 := Aside0.mk A30
  clear A30
  by_cases c4 : t145 = true
  · subst c4
    have H1 : (if 0 ≤ (wrap64 ((a0.size : Int) - (a1.size : Int))) then (if (wrap64 ((a0.size : Int) - (a1.size : Int))) ≤ (a0.size : Int) then (some (a0.extract 0 ((wrap64 ((a0.size : Int) - (a1.size : Int))) : Int).toNat)) else (none)) else (none)) = some r := by rw [if_pos rfl] at H; exact H
    clear H
    have H := H1
    clear H1
    obtain ⟨ji5, hji5⟩ : ∃ j_ : Int, (wrap64 ((a0.size : Int) - (a1.size : Int))) = j_ := ⟨_, rfl⟩
    replace H : (if 0 ≤ (ji5) then (if (ji5) ≤ (a0.size : Int) then (some (a0.extract 0 ((ji5) : Int).toNat)) else (none)) else (none)) = some r := by first | (rw [hji5] at H; exact H) | (simp only [hji5] at H ⊢; exact H)
    (try rw [hji5] at A3)
    have hji5w : (IntKind.i64.wrap ((a0.size : Int) - (a1.size : Int))) = ji5 := (i64_w _).trans hji5
    by_cases c6 : 0 ≤ (ji5)
    · rw [if_pos c6] at H
      have c6b0 := eq_true c6
      have c6b1 : decide (0 ≤ (ji5)) = true := decide_eq_true c6
      clear c6
      by_cases c7 : (ji5) ≤ (a0.size : Int)
      · rw [if_pos c7] at H
        have c7b0 := eq_true c7
        have c7b1 : decide ((ji5) ≤ (a0.size : Int)) = true := decide_eq_true c7
        clear c7
        obtain rfl := Option.some.inj H
        go_enter Tryd.func31, Tryd.ntmps31
        go_wp2_with (first | ((with_reducible refine gate_callee (f := 51) rfl ?_); refine goesL_ (some 7) rfl rfl Tryd.func51 (by kernel_rfl) rfl #[.string a0, .string a1] rfl (by (try simp only [List.map_toArray, List.map_cons, List.map_nil]); first | done | rfl | (simp only [List.length_drop, List.length_take]; rfl)) ?_; (with_reducible refine (stringslite_HasSuffix.calls a0 a1 true _ A3.out).mono ?_); rintro e w' ⟨rfl, ⟨nd, rfl⟩⟩; refine ⟨_, rfl, ?_⟩))
        go_ret
        exact ⟨by first | rfl | (simp; done) | (simp only [← hji5] <;> (first | rfl | simp)) | (simp [*]; done), by repeat (first | exact Drawn0.refl _ | apply Drawn0.step)⟩
      · rw [if_neg c7] at H
        exact absurd H (by simp)
    · rw [if_neg c6] at H
      exact absurd H (by simp)
  · replace c4 := Bool.eq_false_iff.mpr c4
    subst c4
    have H1 : (some a0) = some r := by rw [if_neg (show ¬ (false = true) by decide)] at H; exact H
    clear H
    have H := H1
    clear H1
    obtain rfl := Option.some.inj H
    go_enter Tryd.func31, Tryd.ntmps31
    go_wp2_with (first | ((with_reducible refine gate_callee (f := 51) rfl ?_); refine goesL_ (some 7) rfl rfl Tryd.func51 (by kernel_rfl) rfl #[.string a0, .string a1] rfl (by (try simp only [List.map_toArray, List.map_cons, List.map_nil]); first | done | rfl | (simp only [List.length_drop, List.length_take]; rfl)) ?_; (with_reducible refine (stringslite_HasSuffix.calls a0 a1 false _ A3.out).mono ?_); rintro e w' ⟨rfl, ⟨nd, rfl⟩⟩; refine ⟨_, rfl, ?_⟩))
    go_ret
    exact ⟨by first | rfl | (simp; done) | (simp [*]; done), by repeat (first | exact Drawn0.refl _ | apply Drawn0.step)⟩

/-! ### strings_TrimSuffix: function 16 -/
def strings_TrimSuffix.f (a0 : ByteArray) (a1 : ByteArray) : Option (ByteArray) := (stringslite_TrimSuffix.f a0 a1).bind fun t146 => (some t146)
set_option maxHeartbeats 8000000 in
set_option maxRecDepth 100000 in
theorem strings_TrimSuffix.calls (a0 : ByteArray) (a1 : ByteArray) (r : ByteArray) (w : World) (h : strings_TrimSuffix.f a0 a1 = some r) :
    Calls Tryd.prog 16 #[.string a0, .string a1] w fun e w' => e = .returned (.string r) ∧ Drawn0 w w' := by
  have H : ((stringslite_TrimSuffix.f a0 a1).bind fun t146 => (some t146)) = some r := h
  clear h
  replace H := Option.bind_eq_some_iff.mp H
  obtain ⟨t146, A30, H⟩ := H
  replace H : (some t146) = some r := H
  have A3 := Aside0.mk A30
  clear A30
  obtain rfl := Option.some.inj H
  go_enter Tryd.func16, Tryd.ntmps16
  go_wp2_with (first | ((with_reducible refine gate_callee (f := 31) rfl ?_); refine goesL_ (some 7) rfl rfl Tryd.func31 (by kernel_rfl) rfl #[.string a0, .string a1] rfl (by (try simp only [List.map_toArray, List.map_cons, List.map_nil]); first | done | rfl | (simp only [List.length_drop, List.length_take]; rfl)) ?_; (with_reducible refine (stringslite_TrimSuffix.calls a0 a1 t146 _ A3.out).mono ?_); rintro e w' ⟨rfl, ⟨nd, rfl⟩⟩; refine ⟨_, rfl, ?_⟩))
  go_ret
  exact ⟨by first | rfl | (simp; done) | (simp [*]; done), by repeat (first | exact Drawn0.refl _ | apply Drawn0.step)⟩

-- NOT PRINTED: function 18 (table_must)

-- NOT PRINTED: function 17 (table_read)

-- NOT PRINTED: function 6 (table_Parse)

/-! ### tidemarklaw26_sameInts: function 19 -/
def tidemarklaw26_sameInts.l0 : Nat → List Int → List Int → Int → Int → Option (Bool)
  | 0, _, _, _, _ => none
  | k + 1, x0, x1, x12, x13 => if x13 < x12 then (if 0 ≤ x13 then (if x13 < (x0.length : Int) then (if x13 < (x1.length : Int) then (if (rd x0 x13) = (rd x1 x13) then (tidemarklaw26_sameInts.l0 k x0 x1 x12 (wrap64 (x13 + 1))) else (some false)) else (none)) else (none)) else (none)) else (some true)
def tidemarklaw26_sameInts.f (k : Nat) (l0 : List Int) (l1 : List Int) : Option (Bool) := if (l0.length : Int) = (l1.length : Int) then (tidemarklaw26_sameInts.l0 k l0 l1 (l0.length : Int) 0) else (some false)
theorem tidemarklaw26_sameInts.mono_l : ∀ k, (∀ y0 y1 y2 y3, LeO (tidemarklaw26_sameInts.l0 k y0 y1 y2 y3) (tidemarklaw26_sameInts.l0 (k + 1) y0 y1 y2 y3))
  | 0 => fun _ _ _ _ r h => by simp [tidemarklaw26_sameInts.l0] at h
  | k + 1 => by
    have ih0 := tidemarklaw26_sameInts.mono_l k
    · intro y0 y1 y2 y3
      unfold tidemarklaw26_sameInts.l0
      repeat' first
      | (with_reducible exact ih0 _ _ _ _)
      | (with_reducible exact LeO.refl _)
      | (with_reducible exact LeO.none _)
      | (with_reducible refine LeO.ite ?_ ?_)
      | (with_reducible refine LeO.bind ?_ (fun _ => ?_))
      | exact ih0 _ _ _ _
      | exact LeO.none _
      | refine LeO.ite ?_ ?_
      | refine LeO.bind ?_ (fun _ => ?_)
theorem tidemarklaw26_sameInts.mono : ∀ a0 a1 k, LeO (tidemarklaw26_sameInts.f k a0 a1) (tidemarklaw26_sameInts.f (k + 1) a0 a1) := by
  intro a0 a1 k
  have ih0 := tidemarklaw26_sameInts.mono_l k
  unfold tidemarklaw26_sameInts.f
  repeat' first
      | (with_reducible exact ih0 _ _ _ _)
      | (with_reducible exact LeO.refl _)
      | (with_reducible exact LeO.none _)
      | (with_reducible refine LeO.ite ?_ ?_)
      | (with_reducible refine LeO.bind ?_ (fun _ => ?_))
      | exact ih0 _ _ _ _
      | exact LeO.none _
      | refine LeO.ite ?_ ?_
      | refine LeO.bind ?_ (fun _ => ?_)
set_option maxHeartbeats 8000000 in
set_option maxRecDepth 100000 in
theorem tidemarklaw26_sameInts.calls (k : Nat) (A0 : Option Addr) (c0 : Nat) (l0 : List Int) (A1 : Option Addr) (c1 : Nat) (l1 : List Int) (r : Bool) (w : World) (hr0 : Kd.C (Kd.int .i64) w A0 l0.length l0) (hc0 : l0.length ≤ c0) (hr1 : Kd.C (Kd.int .i64) w A1 l1.length l1) (hc1 : l1.length ≤ c1) (h : tidemarklaw26_sameInts.f k l0 l1 = some r) :
    Calls Tryd.prog 19 #[.slice A0 l0.length c0, .slice A1 l1.length c1] w fun e w' => e = .returned (.bool r) ∧ Drawn0 w w' := by
  have HR0 := Aside0.mk hr0
  have HC0 := Aside0.mk hc0
  clear hr0 hc0
  have HR1 := Aside0.mk hr1
  have HC1 := Aside0.mk hc1
  clear hr1 hc1
  have H : (if (l0.length : Int) = (l1.length : Int) then (tidemarklaw26_sameInts.l0 k l0 l1 (l0.length : Int) 0) else (some false)) = some r := h
  clear h
  by_cases c3 : (l0.length : Int) = (l1.length : Int)
  · rw [if_pos c3] at H
    have c3b0 : ((l0.length : Int) == (l1.length : Int)) = true := beq_iff_eq.mpr c3
    have c3b1 : ((l0.length : Int) != (l1.length : Int)) = false := bne_eq_false_iff_eq.mpr c3
    have c3b2 : (l0.length == l1.length) = true := by first | simpa using c3 | (simp at c3 ⊢; omega)
    clear c3
    have H' := Aside0.mk H
    clear H
    go_enter Tryd.func19, Tryd.ntmps19
    go_wp2
    repeat (go_quiet (fail); try go_wp2)
    go_loopg [13] k (fun kq v13 w' => ∃ (x13_1 : Int), v13 = .int .i64 x13_1 ∧ Aside0 (tidemarklaw26_sameInts.l0 kq l0 l1 (l0.length : Int) x13_1 = some r) ∧ Aside0 (kq ≤ k) ∧ Drawn0 w w')
    case atStart => exact ⟨(0), (by first | rfl | (simp; done) | (simp [*]; done)), H', ⟨Nat.le_refl _⟩, by repeat (first | exact Drawn0.refl _ | apply Drawn0.step)⟩
    case round =>
      clear H'
      try clear c1
      try clear p2
      try clear c3
      try clear c3b0
      try clear c3b1
      try clear c3b2
      obtain ⟨x13_1, rfl, HA, HK1, ⟨m1, rfl⟩⟩ := hrel
      cases gk with
      | zero => exact absurd HA.out (by simp [tidemarklaw26_sameInts.l0])
      | succ k1 =>
        have H := HA.out
        clear HA
        simp only [tidemarklaw26_sameInts.l0] at H
        by_cases c4 : x13_1 < (l0.length : Int)
        · rw [if_pos c4] at H
          have c4b0 : decide (x13_1 < (l0.length : Int)) = true := decide_eq_true c4
          clear c4
          by_cases c5 : 0 ≤ x13_1
          · rw [if_pos c5] at H
            have c5b0 : decide (0 ≤ x13_1) = true := decide_eq_true c5
            clear c5
            by_cases c6 : x13_1 < (l0.length : Int)
            · rw [if_pos c6] at H
              have c6b0 : decide (x13_1 < (l0.length : Int)) = true := decide_eq_true c6
              clear c6
              by_cases c7 : x13_1 < (l1.length : Int)
              · rw [if_pos c7] at H
                have c7b0 : decide (x13_1 < (l1.length : Int)) = true := decide_eq_true c7
                clear c7
                by_cases c8 : (rd l0 x13_1) = (rd l1 x13_1)
                · rw [if_pos c8] at H
                  have c8b0 : ((rd l0 x13_1) == (rd l1 x13_1)) = true := beq_iff_eq.mpr c8
                  have c8b1 : ((rd l0 x13_1) != (rd l1 x13_1)) = false := bne_eq_false_iff_eq.mpr c8
                  clear c8
                  have H' := Aside0.mk H
                  clear H
                  have p148 : 0 ≤ (x13_1 : Int) := of_decide_eq_true (by first | (with_reducible assumption) | assumption)
                  have q148 : x13_1 < (l0.length : Int) := of_decide_eq_true (by first | (with_reducible assumption) | assumption)
                  obtain ⟨ad148, e148, hx148_0⟩ := Kd.at_int HR0.out x13_1 p148 q148
                  cases e148
                  replace p148 := eq_true p148
                  replace q148 := eq_true q148
                  have p149 : 0 ≤ (x13_1 : Int) := of_decide_eq_true (by first | (with_reducible assumption) | assumption)
                  have q149 : x13_1 < (l1.length : Int) := of_decide_eq_true (by first | (with_reducible assumption) | assumption)
                  obtain ⟨ad149, e149, hx149_0⟩ := Kd.at_int HR1.out x13_1 p149 q149
                  cases e149
                  replace p149 := eq_true p149
                  replace q149 := eq_true q149
                  go_wp2
                  repeat (go_quiet (fail); try go_wp2)
                  go_roundg k1
                  case measure => have := HK1.out; omega
                  case rel => exact ⟨(wrap64 (x13_1 + 1)), (by first | rfl | (simp; done) | (simp [*]; done)), H', ⟨by have := HK1.out; omega⟩, by repeat (first | exact Drawn0.refl _ | apply Drawn0.step)⟩
                · rw [if_neg c8] at H
                  have c8b0 : ((rd l0 x13_1) == (rd l1 x13_1)) = false := beq_eq_false_iff_ne.mpr c8
                  have c8b1 : ((rd l0 x13_1) != (rd l1 x13_1)) = true := bne_iff_ne.mpr c8
                  obtain rfl := Option.some.inj H
                  have p148 : 0 ≤ (x13_1 : Int) := of_decide_eq_true (by first | (with_reducible assumption) | assumption)
                  have q148 : x13_1 < (l0.length : Int) := of_decide_eq_true (by first | (with_reducible assumption) | assumption)
                  obtain ⟨ad148, e148, hx148_0⟩ := Kd.at_int HR0.out x13_1 p148 q148
                  cases e148
                  replace p148 := eq_true p148
                  replace q148 := eq_true q148
                  have p149 : 0 ≤ (x13_1 : Int) := of_decide_eq_true (by first | (with_reducible assumption) | assumption)
                  have q149 : x13_1 < (l1.length : Int) := of_decide_eq_true (by first | (with_reducible assumption) | assumption)
                  obtain ⟨ad149, e149, hx149_0⟩ := Kd.at_int HR1.out x13_1 p149 q149
                  cases e149
                  replace p149 := eq_true p149
                  replace q149 := eq_true q149
                  go_wp2
                  repeat (go_quiet (fail); try go_wp2)
                  go_ret
                  exact ⟨by first | rfl | (simp; done) | (simp [*]; done), by repeat (first | exact Drawn0.refl _ | apply Drawn0.step)⟩
              · rw [if_neg c7] at H
                exact absurd H (by simp)
            · rw [if_neg c6] at H
              exact absurd H (by simp)
          · rw [if_neg c5] at H
            exact absurd H (by simp)
        · rw [if_neg c4] at H
          have c4b0 : decide (x13_1 < (l0.length : Int)) = false := decide_eq_false c4
          clear c4
          obtain rfl := Option.some.inj H
          go_wp2
          repeat (go_quiet (fail); try go_wp2)
          go_ret
          exact ⟨by first | rfl | (simp; done) | (simp [*]; done), by repeat (first | exact Drawn0.refl _ | apply Drawn0.step)⟩
  · rw [if_neg c3] at H
    have c3b0 : ((l0.length : Int) == (l1.length : Int)) = false := beq_eq_false_iff_ne.mpr c3
    have c3b1 : ((l0.length : Int) != (l1.length : Int)) = true := bne_iff_ne.mpr c3
    have c3b2 : (l0.length == l1.length) = false := by first | simpa using c3 | (simp at c3 ⊢; omega)
    obtain rfl := Option.some.inj H
    go_enter Tryd.func19, Tryd.ntmps19
    go_wp2
    repeat (go_quiet (fail); try go_wp2)
    go_ret
    exact ⟨by first | rfl | (simp; done) | (simp [*]; done), by repeat (first | exact Drawn0.refl _ | apply Drawn0.step)⟩

-- NOT PRINTED: function 7 (tidemarklaw26_sameSchema)

-- NOT PRINTED: function 3 (tidemarklaw26_TableText)

end Go.Proofs.YtfkbpjeocljflaaDoor.PTableText

namespace Go.Proofs.YtfkbpjeocljflaaDoor
open Go Go.RowKit Go.Lib Go.Proofs.YtfkbpjeocljflaaDoor.PTableText Go.Proofs.YtfkbpjeocljflaaDoorW.PrintWords Go.Proofs.YtfkbpjeocljflaaDoorW.PrintLast Go.Proofs.YtfkbpjeocljflaaDoorW.PrintMore
set_option linter.unusedVariables false
set_option linter.unusedSimpArgs false

/-- With fuel enough, this. -/
def Ev {α : Type} (f : Nat → Option α) (r : α) : Prop := ∃ K, ∀ k, K ≤ k → f k = some r
theorem Ev.pure {α : Type} (r : α) : Ev (fun _ => some r) r := ⟨0, fun _ _ => rfl⟩
theorem Ev.step {α : Type} {f g : Nat → Option α} {r : α} (h : Ev g r) (e : ∀ k, f (k + 1) = g k) : Ev f r := by
  obtain ⟨K, hK⟩ := h
  refine ⟨K + 1, fun k hk => ?_⟩
  obtain ⟨j, rfl⟩ : ∃ j, k = j + 1 := ⟨k - 1, by omega⟩
  rw [e, hK j (by omega)]
theorem Ev.of {α : Type} {f g : Nat → Option α} {r : α} (h : Ev g r) (e : ∀ k, f k = g k) : Ev f r := by
  obtain ⟨K, hK⟩ := h
  exact ⟨K, fun k hk => by rw [e, hK k hk]⟩
theorem Ev.bind {α β : Type} {f : Nat → Option α} {g : Nat → α → Option β} {a : α} {r : β} (h : Ev f a) (h2 : Ev (fun k => g k a) r) : Ev (fun k => (f k).bind (g k)) r := by
  obtain ⟨K, hK⟩ := h
  obtain ⟨L, hL⟩ := h2
  refine ⟨K + L, fun k hk => ?_⟩
  show (f k).bind (g k) = some r
  rw [hK k (by omega), Option.bind_some]
  exact hL k (by omega)
theorem Ev.some {α : Type} {f : Nat → Option α} {r : α} (h : Ev f r) : ∃ k, f k = some r := by
  obtain ⟨K, hK⟩ := h
  exact ⟨K, hK K (Nat.le_refl _)⟩
theorem wrap_nat (i : Nat) (h : i < 9000000) : wrap64 ((i : Int) + 1) = ((i + 1 : Nat) : Int) := by unfold wrap64; omega

/-! ### Names -/
theorem name_from (s : ByteArray) (most : Nat) (hs : s.size ≤ 2000000) : ∀ (n i : Nat), s.size = i + n →
    Ev (fun k => tidemarkref26_name.l0 k s (most : Int) (i : Int)) ((s.data.toList.drop i).all letter && (decide (0 < s.size) && decide (s.size ≤ most)))
  | 0, i, h => by
    refine (Ev.pure _).step (fun k => ?_)
    have hl : s.data.toList.length = s.size := by simp
    rw [List.drop_eq_nil_of_le (by omega)]
    simp only [tidemarkref26_name.l0]
    rw [if_neg (by omega)]
    by_cases h1 : 0 < s.size
    · rw [if_pos (by omega)]
      simp [h1]
    · rw [if_neg (by omega)]
      simp [h1]
  | n + 1, i, h => by
    have ih := name_from s most hs n (i + 1) (by omega)
    have hl : s.data.toList.length = s.size := by simp
    have hi : i < s.data.toList.length := by omega
    have hb : bt s (i : Int) = ((s.data.toList[i]'hi).toNat : Int) := by
      unfold bt
      rw [dif_pos (by simpa using (by omega : i < s.size))]
      rfl
    rw [List.drop_eq_getElem_cons hi, List.all_cons]
    cases hlt : letter (s.data.toList[i]'hi) with
    | false =>
      refine (Ev.pure _).step (fun k => ?_)
      simp only [tidemarkref26_name.l0]
      rw [if_pos (by omega), if_pos (by omega), hb]
      unfold letter at hlt
      simp only [Bool.and_eq_false_iff, decide_eq_false_iff_not] at hlt
      by_cases h1 : ((s.data.toList[i]'hi).toNat : Int) < 97
      · rw [if_pos h1]; simp
      · rw [if_neg h1, if_pos (by omega)]; simp
    | true =>
      refine ih.step (fun k => ?_)
      simp only [tidemarkref26_name.l0]
      unfold letter at hlt
      simp only [Bool.and_eq_true, decide_eq_true_eq] at hlt
      rw [if_pos (by omega), if_pos (by omega), hb, if_neg (by omega), if_neg (by omega), wrap_nat i (by omega)]
theorem name_law (s : ByteArray) (most : Nat) (hs : s.size ≤ 2000000) : Ev (fun k => tidemarkref26_name.f k s (most : Int)) (nm s most) := by
  have := name_from s most hs s.size 0 (by omega)
  rw [List.drop_zero] at this
  have e : nm s most = (s.data.toList.all letter && (decide (0 < s.size) && decide (s.size ≤ most))) := by
    unfold nm
    rw [Bool.and_comm]
  rw [e]
  exact this

/-- Whether one of the places j, j + 1, .. below i is such. -/
def anyTo (p : Nat → Bool) (i j : Nat) : Bool := (List.range' j (i - j)).any p
theorem anyTo_end (p : Nat → Bool) {i j : Nat} (h : i ≤ j) : anyTo p i j = false := by
  unfold anyTo; rw [show i - j = 0 by omega]; rfl
theorem anyTo_step (p : Nat → Bool) {i j : Nat} (h : j < i) : anyTo p i j = (p j || anyTo p i (j + 1)) := by
  unfold anyTo
  obtain ⟨d, hd⟩ : ∃ d, i - j = d + 1 := ⟨i - j - 1, by omega⟩
  rw [hd, List.range'_succ, List.any_cons, show i - (j + 1) = d by omega]
theorem anyTo_take {α : Type} (l : List α) (z : α) (q : α → Bool) (i : Nat) (h : i ≤ l.length) : anyTo (fun j => q (l.getD j z)) i 0 = (l.take i).any q := by
  rw [Bool.eq_iff_iff]
  unfold anyTo
  simp only [List.any_eq_true, List.mem_range'_1, Nat.sub_zero, Nat.zero_le, true_and, Nat.zero_add]
  constructor
  · rintro ⟨d, hd, hq⟩
    refine ⟨l.getD d z, ?_, hq⟩
    rw [List.mem_take_iff_getElem]
    refine ⟨d, by omega, ?_⟩
    rw [List.getD_eq_getElem?_getD, List.getElem?_eq_getElem (by omega)]; rfl
  · rintro ⟨x, hx, hq⟩
    rw [List.mem_take_iff_getElem] at hx
    obtain ⟨d, hd, rfl⟩ := hx
    refine ⟨d, by omega, ?_⟩
    rw [List.getD_eq_getElem?_getD, List.getElem?_eq_getElem (by omega)]
    exact hq
/-- Whether all of the places i, i + 1, .. below n are such. -/
def allTo (p : Nat → Bool) (n i : Nat) : Bool := (List.range' i (n - i)).all p
theorem allTo_end (p : Nat → Bool) {n i : Nat} (h : n ≤ i) : allTo p n i = true := by
  unfold allTo; rw [show n - i = 0 by omega]; rfl
theorem allTo_step (p : Nat → Bool) {n i : Nat} (h : i < n) : allTo p n i = (p i && allTo p n (i + 1)) := by
  unfold allTo
  obtain ⟨d, hd⟩ : ∃ d, n - i = d + 1 := ⟨n - i - 1, by omega⟩
  rw [hd, List.range'_succ, List.all_cons, show n - (i + 1) = d by omega]
theorem allTo_range (p : Nat → Bool) (n : Nat) : allTo p n 0 = (List.range n).all p := by
  unfold allTo; rw [Nat.sub_zero, List.range_eq_range']
theorem dec_bytes (a b : ByteArray) : (decide (a = b)) = decide (a.toList = b.toList) := by
  rw [Bool.eq_iff_iff]
  simp only [decide_eq_true_eq]
  constructor
  · intro h; rw [h]
  · intro h
    rw [ByteArray.toList_eq, ByteArray.toList_eq] at h
    exact ByteArray.ext (Array.ext' h)

/-! ### Columns -/
theorem columns_l1 (name : ByteArray) (cols : List Col) (key : Int) (idxs : List Idx) (hc : cols.length ≤ 2000000) (i : Nat) (hi : i < cols.length) (x : ByteArray) (kd : Int) (nl : Bool) (R : Bool)
    (hR : Ev (fun k => tidemarkref26_columns.l0 k ((i + 1 : Nat) : Int) name cols key idxs) R) : ∀ (n j : Nat), i = j + n →
    Ev (fun k => tidemarkref26_columns.l1 k (i : Int) (j : Int) name cols key idxs x kd nl) (!(anyTo (fun j => decide ((cols.getD j noCol).f0 = x)) i j) && R)
  | 0, j, h => by
    rw [anyTo_end _ (by omega)]
    refine hR.step (fun k => ?_)
    simp only [tidemarkref26_columns.l1]
    rw [if_neg (by omega), wrap_nat i (by omega)]
  | n + 1, j, h => by
    have ih := columns_l1 name cols key idxs hc i hi x kd nl R hR n (j + 1) (by omega)
    rw [anyTo_step _ (by omega)]
    have hrd : rd_T56 cols (j : Int) = cols.getD j noCol := rfl
    by_cases he : (cols.getD j noCol).f0.toList = x.toList
    · refine (Ev.pure _).step (fun k => ?_)
      simp only [tidemarkref26_columns.l1]
      rw [if_pos (by omega), if_pos (by omega), if_pos (by omega), hrd, if_pos he, dec_bytes, decide_eq_true he]
      rfl
    · rw [dec_bytes, decide_eq_false he, Bool.false_or]
      refine ih.step (fun k => ?_)
      simp only [tidemarkref26_columns.l1]
      rw [if_pos (by omega), if_pos (by omega), if_pos (by omega), hrd, if_neg he, wrap_nat j (by omega)]
theorem columns_from (name : ByteArray) (cols : List Col) (key : Int) (idxs : List Idx) (hc : cols.length ≤ 2000000) (hn : ∀ c ∈ cols, c.f0.size ≤ 2000000) : ∀ (n i : Nat), cols.length = i + n →
    Ev (fun k => tidemarkref26_columns.l0 k (i : Int) name cols key idxs) (allTo (colOk cols key) cols.length i && (decide (0 < cols.length) && (decide (cols.length ≤ 8) && (decide (0 < key) && decide (key ≤ cols.length)))))
  | 0, i, h => by
    rw [allTo_end _ (by omega), Bool.true_and]
    refine (Ev.pure _).step (fun k => ?_)
    simp only [tidemarkref26_columns.l0]
    rw [if_neg (by omega)]
    by_cases h1 : 0 < cols.length
    · by_cases h2 : cols.length ≤ 8
      · by_cases h3 : 0 < key
        · rw [if_pos (by omega), if_pos (by omega), if_pos (by omega)]; simp [h1, h2, h3]
        · rw [if_pos (by omega), if_pos (by omega), if_neg (by omega)]; simp [h3]
      · rw [if_pos (by omega), if_neg (by omega)]; simp [h2]
    · rw [if_neg (by omega)]; simp [h1]
  | n + 1, i, h => by
    have ih := columns_from name cols key idxs hc hn n (i + 1) (by omega)
    have hi : i < cols.length := by omega
    rw [allTo_step _ hi, Bool.and_assoc]
    obtain ⟨R, hRe⟩ : ∃ R, R = (allTo (colOk cols key) cols.length (i + 1) && (decide (0 < cols.length) && (decide (cols.length ≤ 8) && (decide (0 < key) && decide (key ≤ cols.length))))) := ⟨_, rfl⟩
    rw [← hRe] at ih ⊢
    have hrd : rd_T56 cols (i : Int) = cols.getD i noCol := rfl
    have hnl := name_law (cols.getD i noCol).f0 8 (hn _ (getD_mem hi))
    have hno : ∀ (kd : Int) (nl : Bool), Ev (fun k => tidemarkref26_columns.j1 k (i : Int) true name cols key idxs (cols.getD i noCol).f0 kd nl) false := fun kd nl =>
      (Ev.pure _).step (fun k => by simp [tidemarkref26_columns.j1])
    have hyes : ∀ (kd : Int) (nl : Bool), Ev (fun k => tidemarkref26_columns.j1 k (i : Int) false name cols key idxs (cols.getD i noCol).f0 kd nl) (!((cols.take i).any fun c => decide (c.f0 = (cols.getD i noCol).f0)) && R) := fun kd nl => by
      rw [← anyTo_take cols noCol _ i (by omega)]
      exact (columns_l1 name cols key idxs hc i hi _ kd nl R ih i 0 (by omega)).step (fun k => by simp [tidemarkref26_columns.j1])
    have hl0 : ∀ k, tidemarkref26_columns.l0 (k + 1) (i : Int) name cols key idxs = (tidemarkref26_name.f k (cols.getD i noCol).f0 8).bind fun t129 => (if t129 = true then (if (cols.getD i noCol).f1 < 1 then (tidemarkref26_columns.j1 k i true name cols key idxs ((cols.getD i noCol).f0) ((cols.getD i noCol).f1) ((cols.getD i noCol).f2)) else (if (cols.getD i noCol).f1 > 3 then (tidemarkref26_columns.j1 k i true name cols key idxs ((cols.getD i noCol).f0) ((cols.getD i noCol).f1) ((cols.getD i noCol).f2)) else (if (cols.getD i noCol).f2 = true then (tidemarkref26_columns.j1 k i (decide ((i : Int) < key)) name cols key idxs ((cols.getD i noCol).f0) ((cols.getD i noCol).f1) ((cols.getD i noCol).f2)) else (tidemarkref26_columns.j1 k i false name cols key idxs ((cols.getD i noCol).f0) ((cols.getD i noCol).f1) ((cols.getD i noCol).f2))))) else (tidemarkref26_columns.j1 k i true name cols key idxs ((cols.getD i noCol).f0) ((cols.getD i noCol).f1) ((cols.getD i noCol).f2))) := fun k => by
      simp only [tidemarkref26_columns.l0]
      rw [if_pos (by omega), if_pos (by omega)]
      rfl
    refine Ev.step (g := fun k => _) ?_ hl0
    refine Ev.bind hnl ?_
    unfold colOk
    cases h1 : nm (cols.getD i noCol).f0 8 with
    | false => simp only [Bool.false_and]; exact (hno (cols.getD i noCol).f1 (cols.getD i noCol).f2).of (fun k => by rw [if_neg (by simp)])
    | true =>
      by_cases h2 : (cols.getD i noCol).f1 < 1
      · have : decide (1 ≤ (cols.getD i noCol).f1) = false := decide_eq_false (by omega)
        rw [this]; simp only [Bool.and_false, Bool.false_and]
        exact (hno (cols.getD i noCol).f1 (cols.getD i noCol).f2).of (fun k => by rw [if_pos trivial, if_pos h2])
      · by_cases h3 : (cols.getD i noCol).f1 > 3
        · have : decide ((cols.getD i noCol).f1 ≤ 3) = false := decide_eq_false (by omega)
          rw [this]; simp only [Bool.and_false, Bool.false_and]
          exact (hno (cols.getD i noCol).f1 (cols.getD i noCol).f2).of (fun k => by rw [if_pos trivial, if_neg h2, if_pos h3])
        · have e1 : decide (1 ≤ (cols.getD i noCol).f1) = true := decide_eq_true (by omega)
          have e2 : decide ((cols.getD i noCol).f1 ≤ 3) = true := decide_eq_true (by omega)
          rw [e1, e2]
          cases h4 : (cols.getD i noCol).f2 with
          | false =>
            simp only [Bool.and_true, Bool.true_and, Bool.false_and, Bool.not_false]
            exact (hyes (cols.getD i noCol).f1 (cols.getD i noCol).f2).of (fun k => by rw [if_pos trivial, if_neg h2, if_neg h3, h4]; rfl)
          | true =>
            by_cases h5 : (i : Int) < key
            · rw [decide_eq_true h5]
              simp only [Bool.and_true, Bool.true_and, Bool.not_true, Bool.and_false, Bool.false_and]
              exact (hno (cols.getD i noCol).f1 (cols.getD i noCol).f2).of (fun k => by rw [if_pos trivial, if_neg h2, if_neg h3, h4]; rfl)
            · rw [decide_eq_false h5]
              simp only [Bool.and_true, Bool.true_and, Bool.not_false, Bool.and_false, Bool.false_and]
              exact (hyes (cols.getD i noCol).f1 (cols.getD i noCol).f2).of (fun k => by rw [if_pos trivial, if_neg h2, if_neg h3, h4]; rfl)
theorem columns_law (name : ByteArray) (cols : List Col) (key : Int) (idxs : List Idx) (hc : cols.length ≤ 2000000) (hn : ∀ c ∈ cols, c.f0.size ≤ 2000000) :
    Ev (fun k => tidemarkref26_columns.f k name cols key idxs) (colsOk cols key) := by
  have := columns_from name cols key idxs hc hn cols.length 0 (by omega)
  rw [allTo_range] at this
  have e : colsOk cols key = ((List.range cols.length).all (colOk cols key) && (decide (0 < cols.length) && (decide (cols.length ≤ 8) && (decide (0 < key) && decide (key ≤ cols.length))))) := by
    unfold colsOk; simp only [Bool.and_assoc]
  rw [e]; exact this

/-! ### Places -/
theorem places_l1 (l : List Int) (m : Int) (hc : l.length ≤ 2000000) (i : Nat) (hi : i < l.length) (R : Bool) (hR : Ev (fun k => tidemarkref26_places.l0 k l m ((i + 1 : Nat) : Int)) R) : ∀ (n j : Nat), i = j + n →
    Ev (fun k => tidemarkref26_places.l1 k l m (i : Int) (j : Int)) (!(anyTo (fun j => decide (l.getD j 0 = l.getD i 0)) i j) && R)
  | 0, j, h => by
    rw [anyTo_end _ (by omega)]
    refine hR.step (fun k => ?_)
    simp only [tidemarkref26_places.l1]
    rw [if_neg (by omega), wrap_nat i (by omega)]
  | n + 1, j, h => by
    have ih := places_l1 l m hc i hi R hR n (j + 1) (by omega)
    rw [anyTo_step _ (by omega)]
    have hrd : ∀ j : Nat, rd l (j : Int) = l.getD j 0 := fun _ => rfl
    by_cases he : l.getD j 0 = l.getD i 0
    · refine (Ev.pure _).step (fun k => ?_)
      simp only [tidemarkref26_places.l1]
      rw [if_pos (by omega), if_pos (by omega), if_pos (by omega), if_pos (by omega), if_pos (by omega), hrd, hrd, if_pos he, decide_eq_true he]
      rfl
    · rw [decide_eq_false he, Bool.false_or]
      refine ih.step (fun k => ?_)
      simp only [tidemarkref26_places.l1]
      rw [if_pos (by omega), if_pos (by omega), if_pos (by omega), if_pos (by omega), if_pos (by omega), hrd, hrd, if_neg he, wrap_nat j (by omega)]
theorem places_from (l : List Int) (m : Nat) (hc : l.length ≤ 2000000) : ∀ (n i : Nat), l.length = i + n →
    Ev (fun k => tidemarkref26_places.l0 k l (m : Int) (i : Int)) (allTo (placeOk l m) l.length i && decide (0 < l.length))
  | 0, i, h => by
    rw [allTo_end _ (by omega), Bool.true_and]
    refine (Ev.pure _).step (fun k => ?_)
    simp only [tidemarkref26_places.l0]
    rw [if_neg (by omega)]
    congr 1
    rw [decide_eq_decide]
    omega
  | n + 1, i, h => by
    have ih := places_from l m hc n (i + 1) (by omega)
    have hi : i < l.length := by omega
    rw [allTo_step _ hi, Bool.and_assoc]
    have hrd : rd l (i : Int) = l.getD i 0 := rfl
    have hct : (l.take i).contains (l.getD i 0) = anyTo (fun j => decide (l.getD j 0 = l.getD i 0)) i 0 := by
      rw [anyTo_take l 0 (fun x => decide (x = l.getD i 0)) i (by omega), Bool.eq_iff_iff]
      simp only [List.contains_eq_mem, List.any_eq_true, decide_eq_true_eq]
      exact ⟨fun h => ⟨_, h, rfl⟩, fun ⟨x, hx, e⟩ => e ▸ hx⟩
    have h1 := places_l1 l m hc i hi _ ih i 0 (by omega)
    rw [← hct] at h1
    unfold placeOk
    by_cases h2 : l.getD i 0 < 0
    · rw [decide_eq_false (show ¬ 0 ≤ l.getD i 0 by omega)]
      simp only [Bool.false_and]
      refine Ev.step (g := fun k => tidemarkref26_places.j1 k l m i true) ?_ (fun k => ?_)
      · exact (Ev.pure _).step (fun k => by simp [tidemarkref26_places.j1])
      · simp only [tidemarkref26_places.l0]
        rw [if_pos (by omega), if_pos (by omega), hrd, if_pos h2]
    · by_cases h3 : l.getD i 0 ≥ (m : Int)
      · rw [decide_eq_false (show ¬ l.getD i 0 < (m : Int) by omega)]
        simp only [Bool.and_false, Bool.false_and]
        refine Ev.step (g := fun k => tidemarkref26_places.j1 k l m i true) ?_ (fun k => ?_)
        · exact (Ev.pure _).step (fun k => by simp [tidemarkref26_places.j1])
        · simp only [tidemarkref26_places.l0]
          rw [if_pos (by omega), if_pos (by omega), hrd, if_neg h2, decide_eq_true h3]
      · rw [decide_eq_true (show 0 ≤ l.getD i 0 by omega), decide_eq_true (show l.getD i 0 < (m : Int) by omega)]
        simp only [Bool.true_and]
        refine Ev.step (g := fun k => tidemarkref26_places.j1 k l m i false) ?_ (fun k => ?_)
        · exact h1.step (fun k => by simp [tidemarkref26_places.j1])
        · simp only [tidemarkref26_places.l0]
          rw [if_pos (by omega), if_pos (by omega), hrd, if_neg h2, decide_eq_false h3]
theorem places_law (l : List Int) (m : Nat) (hc : l.length ≤ 2000000) : Ev (fun k => tidemarkref26_places.f k l (m : Int)) (placesOk l m) := by
  have := places_from l m hc l.length 0 (by omega)
  rw [allTo_range] at this
  unfold placesOk
  rw [Bool.and_comm]
  exact this

/-! ### Indexes -/
theorem valid_l1 (name : ByteArray) (cols : List Col) (key : Int) (idxs : List Idx) (hc : idxs.length ≤ 2000000) (i : Nat) (hi : i < idxs.length) (x : ByteArray) (ps : List Int) (u : Bool) (R : Bool)
    (hR : Ev (fun k => tidemarkref26_Valid.l0 k ((i + 1 : Nat) : Int) name cols key idxs) R) : ∀ (n j : Nat), i = j + n →
    Ev (fun k => tidemarkref26_Valid.l1 k (i : Int) (j : Int) name cols key idxs x ps u) (!(anyTo (fun j => decide ((idxs.getD j noIdx).f0 = x)) i j) && R)
  | 0, j, h => by
    rw [anyTo_end _ (by omega)]
    refine hR.step (fun k => ?_)
    simp only [tidemarkref26_Valid.l1]
    rw [if_neg (by omega), wrap_nat i (by omega)]
  | n + 1, j, h => by
    have ih := valid_l1 name cols key idxs hc i hi x ps u R hR n (j + 1) (by omega)
    rw [anyTo_step _ (by omega)]
    have hrd : rd_T40 idxs (j : Int) = idxs.getD j noIdx := rfl
    by_cases he : (idxs.getD j noIdx).f0.toList = x.toList
    · refine (Ev.pure _).step (fun k => ?_)
      simp only [tidemarkref26_Valid.l1]
      rw [if_pos (by omega), if_pos (by omega), if_pos (by omega), hrd, if_pos he, dec_bytes, decide_eq_true he]
      rfl
    · rw [dec_bytes, decide_eq_false he, Bool.false_or]
      refine ih.step (fun k => ?_)
      simp only [tidemarkref26_Valid.l1]
      rw [if_pos (by omega), if_pos (by omega), if_pos (by omega), hrd, if_neg he, wrap_nat j (by omega)]
theorem valid_from (name : ByteArray) (cols : List Col) (key : Int) (idxs : List Idx) (hc : idxs.length ≤ 2000000) (hn : ∀ x ∈ idxs, x.f0.size ≤ 2000000 ∧ x.f1.length ≤ 2000000) : ∀ (n i : Nat), idxs.length = i + n →
    Ev (fun k => tidemarkref26_Valid.l0 k (i : Int) name cols key idxs) (allTo (idxOk idxs cols.length) idxs.length i)
  | 0, i, h => by
    rw [allTo_end _ (by omega)]
    refine (Ev.pure _).step (fun k => ?_)
    simp only [tidemarkref26_Valid.l0]
    rw [if_neg (by omega)]
  | n + 1, i, h => by
    have ih := valid_from name cols key idxs hc hn n (i + 1) (by omega)
    have hi : i < idxs.length := by omega
    rw [allTo_step _ hi]
    have hnl := name_law (idxs.getD i noIdx).f0 8 (hn _ (getD_mem hi)).1
    have hpl := places_law (idxs.getD i noIdx).f1 cols.length (hn _ (getD_mem hi)).2
    have hno : ∀ (ps : List Int) (u : Bool), Ev (fun k => tidemarkref26_Valid.j2 k (i : Int) true name cols key idxs (idxs.getD i noIdx).f0 ps u) false := fun kd nl =>
      (Ev.pure _).step (fun k => by simp [tidemarkref26_Valid.j2])
    have hyes : ∀ (ps : List Int) (u : Bool), Ev (fun k => tidemarkref26_Valid.j2 k (i : Int) false name cols key idxs (idxs.getD i noIdx).f0 ps u) (!((idxs.take i).any fun c => decide (c.f0 = (idxs.getD i noIdx).f0)) && allTo (idxOk idxs cols.length) idxs.length (i + 1)) := fun kd nl => by
      rw [← anyTo_take idxs noIdx _ i (by omega)]
      exact (valid_l1 name cols key idxs hc i hi _ kd nl _ ih i 0 (by omega)).step (fun k => by simp [tidemarkref26_Valid.j2])
    have hl0 : ∀ k, tidemarkref26_Valid.l0 (k + 1) (i : Int) name cols key idxs = (tidemarkref26_name.f k (idxs.getD i noIdx).f0 8).bind fun t140 => ((tidemarkref26_places.f k (idxs.getD i noIdx).f1 (cols.length : Int)).bind fun t141 => (if t140 = true then (tidemarkref26_Valid.j2 k i (!t141) name cols key idxs ((idxs.getD i noIdx).f0) ((idxs.getD i noIdx).f1) ((idxs.getD i noIdx).f2)) else (tidemarkref26_Valid.j2 k i true name cols key idxs ((idxs.getD i noIdx).f0) ((idxs.getD i noIdx).f1) ((idxs.getD i noIdx).f2)))) := fun k => by
      simp only [tidemarkref26_Valid.l0]
      rw [if_pos (by omega), if_pos (by omega)]
      rfl
    refine Ev.step (g := fun k => _) ?_ hl0
    refine Ev.bind hnl ?_
    refine Ev.bind hpl ?_
    unfold idxOk
    cases h1 : nm (idxs.getD i noIdx).f0 8 with
    | false => simp only [Bool.false_and]; exact (hno (idxs.getD i noIdx).f1 (idxs.getD i noIdx).f2).of (fun k => by rw [if_neg (by simp)])
    | true =>
      cases h2 : placesOk (idxs.getD i noIdx).f1 cols.length with
      | false => simp only [Bool.and_false, Bool.false_and]; exact (hno (idxs.getD i noIdx).f1 (idxs.getD i noIdx).f2).of (fun k => by rw [if_pos trivial]; rfl)
      | true => simp only [Bool.and_true, Bool.true_and]; exact (hyes (idxs.getD i noIdx).f1 (idxs.getD i noIdx).f2).of (fun k => by rw [if_pos trivial]; rfl)

/-- What bounds a schema that is asked for. -/
structure Sch.Small (S : Sch) : Prop where
  name : S.name.size ≤ 2000000
  cols : S.cols.length ≤ 2000000
  col : ∀ c ∈ S.cols, c.f0.size ≤ 2000000
  idxs : S.idxs.length ≤ 2000000
  idx : ∀ x ∈ S.idxs, x.f0.size ≤ 2000000 ∧ x.f1.length ≤ 2000000
theorem valid_law (S : Sch) (h : S.Small) : Ev (fun k => tidemarkref26_Valid.f k S.name S.cols S.key S.idxs) S.ok := by
  have h1 := name_law S.name 6 h.name
  have h2 := columns_law S.name S.cols S.key S.idxs h.cols h.col
  have h3 := valid_from S.name S.cols S.key S.idxs h.idxs h.idx S.idxs.length 0 (by omega)
  rw [allTo_range] at h3
  have hno : Ev (fun k => tidemarkref26_Valid.j0 k true S.name S.cols S.key S.idxs) false := (Ev.pure _).step (fun k => by simp [tidemarkref26_Valid.j0])
  have hyes : Ev (fun k => tidemarkref26_Valid.j0 k false S.name S.cols S.key S.idxs) ((List.range S.idxs.length).all (idxOk S.idxs S.cols.length)) := h3.step (fun k => by simp [tidemarkref26_Valid.j0])
  unfold tidemarkref26_Valid.f Sch.ok
  refine Ev.bind h1 ?_
  refine Ev.bind h2 ?_
  unfold idxsOk
  cases nm S.name 6 with
  | false => simp only [Bool.false_and]; exact hno.of (fun k => by simp)
  | true =>
    cases colsOk S.cols S.key with
    | false => simp only [Bool.and_false, Bool.false_and]; exact hno.of (fun k => by simp)
    | true =>
      by_cases h4 : S.idxs.length ≤ 4
      · rw [decide_eq_true h4]
        simp only [Bool.true_and]
        exact hyes.of (fun k => by rw [if_pos trivial, if_pos trivial, decide_eq_false (by omega)])
      · rw [decide_eq_false h4]
        simp only [Bool.and_false, Bool.false_and]
        exact hno.of (fun k => by rw [if_pos trivial, if_pos trivial, decide_eq_true (by omega)])

/-! ### Equal lists of numbers -/
theorem ints_from (l : List Int) (hc : l.length ≤ 2000000) : ∀ (n i : Nat), l.length = i + n → Ev (fun k => tidemarklaw26_sameInts.l0 k l l (l.length : Int) (i : Int)) true
  | 0, i, h => (Ev.pure _).step (fun k => by simp only [tidemarklaw26_sameInts.l0]; rw [if_neg (by omega)])
  | n + 1, i, h => (ints_from l hc n (i + 1) (by omega)).step (fun k => by
      simp only [tidemarklaw26_sameInts.l0]
      rw [if_pos (by omega), if_pos (by omega), if_pos (by omega), if_pos (by omega), if_pos trivial, wrap_nat i (by omega)])
theorem ints_law (l : List Int) (hc : l.length ≤ 2000000) : Ev (fun k => tidemarklaw26_sameInts.f k l l) true :=
  (ints_from l hc l.length 0 (by omega)).of (fun k => by unfold tidemarklaw26_sameInts.f; rw [if_pos rfl]; rfl)
end Go.Proofs.YtfkbpjeocljflaaDoor
