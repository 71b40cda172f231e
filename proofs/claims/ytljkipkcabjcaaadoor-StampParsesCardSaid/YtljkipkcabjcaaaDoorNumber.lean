/-
  The walk of number: digits alone, no leading zero, that fit into so many bits.
-/
import Derived.Test.YtljkipkcabjcaaaDoorText
import Derived.Lib.Hide
namespace Go.Proofs.YtljkipkcabjcaaaDoor.PStampParses
open Go.RowKit Go.Sort Go.Proofs.YtljkipkcabjcaaaDoorW.PrintWords Go.Proofs.YtljkipkcabjcaaaDoorW.PrintLast Go.Proofs.YtljkipkcabjcaaaDoorW.PrintMore
set_option linter.unusedVariables false
set_option linter.unusedSimpArgs false
/-- The two sentinels' cells hold an error, or nil. -/
def Errs (w : World) : Prop := (∃ ev, w.cell? ⟨2, 0, none⟩ = some ev ∧ (ev = .nilIface ∨ ∃ te pe, ev = .iface te pe)) ∧ ∃ ev, w.cell? ⟨3, 0, none⟩ = some ev ∧ (ev = .nilIface ∨ ∃ te pe, ev = .iface te pe)
theorem Errs.below {w w' : World} (h : Errs w) (hb : Below w.heap.size w w') : Errs w' := by
  obtain ⟨⟨e2, h2, k2⟩, e3, h3, k3⟩ := h
  exact ⟨⟨e2, pw_cell_below hb h2, k2⟩, e3, pw_cell_below hb h3, k3⟩
/-- What ParseUint hands back. -/
def Parsed (B : Nat) (l : List UInt8) (e : Ending) : Prop := (∃ u : Nat, Lib.parseUintB B l = .ok u ∧ e = .returned (.tuple #[.int .u64 (u : Int), .nilIface])) ∨ ((∀ u, Lib.parseUintB B l ≠ .ok u) ∧ ∃ (v : Int) (N : Nat), e = .returned (.tuple #[.int .u64 v, .iface 67 (.pointer (some ⟨N, 0, none⟩))]))
theorem parse64 (s : ByteArray) (hs : s.size ≤ 100) (w : World) (hE : Errs w) : Calls Tryd.prog 15 #[.string s, .int .i64 10, .int .i64 64] w fun e w' => Parsed 64 s.data.toList e ∧ Below w.heap.size w w' := by
  obtain ⟨⟨e2, h2, k2⟩, e3, h3, k3⟩ := hE
  by_cases hok : ∃ u, Lib.parseUintB 64 s.data.toList = .ok u
  · obtain ⟨u, hp⟩ := hok
    refine (Tryd.strconv_ParseUint_10_at64_ok s (by omega) u hp w).mono ?_
    rintro e w' ⟨rfl, hw⟩
    refine ⟨.inl ⟨u, hp, rfl⟩, ?_⟩
    rcases hw with rfl | rfl
    · exact Below.refl _ _
    · exact bytes_below (Below.refl _ _) (Nat.le_refl _) _ _
  · have hn : ∀ u, Lib.parseUintB 64 s.data.toList ≠ .ok u := fun u h => hok ⟨u, h⟩
    by_cases hp : Lib.parseUintB 64 s.data.toList = .range
    · refine (Tryd.strconv_ParseUint_10_at64_range s (by omega) hp e3 w h3 k3).mono ?_
      rintro e w' ⟨N, rfl, _, _, hb⟩
      exact ⟨.inr ⟨hn, _, N, rfl⟩, hb⟩
    · refine (Tryd.strconv_ParseUint_10_at64_nonum s (by omega) hn hp e2 w h2 k2).mono ?_
      rintro e w' ⟨N, rfl, _, _, hb⟩
      exact ⟨.inr ⟨hn, _, N, rfl⟩, hb⟩
theorem parse32 (s : ByteArray) (hs : s.size ≤ 100) (w : World) (hE : Errs w) : Calls Tryd.prog 15 #[.string s, .int .i64 10, .int .i64 32] w fun e w' => Parsed 32 s.data.toList e ∧ Below w.heap.size w w' := by
  obtain ⟨⟨e2, h2, k2⟩, e3, h3, k3⟩ := hE
  by_cases hok : ∃ u, Lib.parseUintB 32 s.data.toList = .ok u
  · obtain ⟨u, hp⟩ := hok
    refine (Tryd.strconv_ParseUint_10_at32_ok s (by omega) u hp w).mono ?_
    rintro e w' ⟨rfl, hw⟩
    refine ⟨.inl ⟨u, hp, rfl⟩, ?_⟩
    rcases hw with rfl | rfl
    · exact Below.refl _ _
    · exact bytes_below (Below.refl _ _) (Nat.le_refl _) _ _
  · have hn : ∀ u, Lib.parseUintB 32 s.data.toList ≠ .ok u := fun u h => hok ⟨u, h⟩
    by_cases hp : Lib.parseUintB 32 s.data.toList = .range
    · refine (Tryd.strconv_ParseUint_10_at32_range s (by omega) hp e3 w h3 k3).mono ?_
      rintro e w' ⟨N, rfl, _, _, hb⟩
      exact ⟨.inr ⟨hn, _, N, rfl⟩, hb⟩
    · refine (Tryd.strconv_ParseUint_10_at32_nonum s (by omega) hn hp e2 w h2 k2).mono ?_
      rintro e w' ⟨N, rfl, _, _, hb⟩
      exact ⟨.inr ⟨hn, _, N, rfl⟩, hb⟩
/-- Digits alone, no leading zero. -/
def Plain (s : ByteArray) : Prop := 0 < s.size ∧ ¬ (1 < s.size ∧ bt s 0 = 48) ∧ ∀ q : Nat, q < s.size → 48 ≤ bt s q ∧ bt s q ≤ 57
/-- What number hands back. -/
def Numbered (B : Nat) (s : ByteArray) (e : Ending) : Prop := (∃ u : Nat, Plain s ∧ Lib.parseUintB B s.data.toList = .ok u ∧ e = .returned (.tuple #[.int .u64 (u : Int), .bool true])) ∨ ((¬ Plain s ∨ ∀ u, Lib.parseUintB B s.data.toList ≠ .ok u) ∧ ∃ (v : Int), e = .returned (.tuple #[.int .u64 v, .bool false]))
theorem number_calls (s : ByteArray) (B : Nat) (w : World) (hs : s.size ≤ 100) (hE : Errs w) (hP : ∀ w, Errs w → Calls Tryd.prog 15 #[.string s, .int .i64 10, .int .i64 (B : Int)] w fun e w' => Parsed B s.data.toList e ∧ Below w.heap.size w w') :
    Calls Tryd.prog 12 #[.string s, .int .i64 (B : Int)] w fun e w' => Numbered B s e ∧ Below w.heap.size w w' := by
  have CP := Lib.hid hP
  have HE := Lib.hid hE
  clear hP hE
  by_cases h0 : s.size = 0
  · have hl : s.data.toList.length = 0 := by rw [Array.length_toList]; exact h0
    have h1 : s.toList.isEmpty = true := by
      rw [ByteArray.toList_eq, List.isEmpty_iff_length_eq_zero]
      exact hl
    have HN := Lib.hid (show ¬ Plain s from fun h => absurd h.1 (by omega))
    have h2 : ¬ (1 : Int) < s.size := by omega
    clear hl
    go_enter Tryd.func12, Tryd.ntmps12
    go_wp2_with fail
    go_ret2
    exact ⟨.inr ⟨.inl HN.out, _, rfl⟩, Below.refl _ _⟩
  · have hl : s.data.toList.length ≠ 0 := by rw [Array.length_toList]; exact h0
    have h1 : s.toList.isEmpty = false := by
      rw [ByteArray.toList_eq]
      cases h : s.data.toList with
      | nil => rw [h] at hl; exact absurd rfl hl
      | cons x r => rfl
    have hx0 : ∀ h : 0 < s.size, ((s[0]'h).toNat : Int) = bt s 0 := bt_at s 0
    have hs0 : 0 < s.size := by omega
    clear hl
    by_cases hz : 1 < s.size ∧ bt s 0 = 48
    · obtain ⟨hz1, hz2⟩ := hz
      have hz1' : (1 : Int) < s.size := by omega
      have HN := Lib.hid (show ¬ Plain s from fun h => h.2.1 ⟨hz1, hz2⟩)
      have HZ := Lib.hid hz2
      have hz3 : (bt s 0 == 48) = true := beq_iff_eq.2 hz2
      clear hz2
      go_enter Tryd.func12, Tryd.ntmps12
      go_wp2_with fail
      go_ret2
      exact ⟨.inr ⟨.inl HN.out, _, rfl⟩, Below.refl _ _⟩
    · have HZ := Lib.hid hz
      go_enter Tryd.func12, Tryd.ntmps12
      by_cases hz1 : 1 < s.size
      · have hz1' : (1 : Int) < s.size := by omega
        have hz3 : (bt s 0 == 48) = false := beq_eq_false_iff_ne.2 (fun h => hz ⟨hz1, h⟩)
        clear hz
        go_wp2_with fail
        go_loopw [6] (fun v wr => ∃ j : Nat, j ≤ s.size ∧ v = .int .i64 j ∧ wr = w ∧ Hid (∀ q : Nat, q < j → 48 ≤ bt s q ∧ bt s q ≤ 57)) (fun v _ => s.size - (intOf v).toNat)
        case atStart => exact ⟨0, by omega, rfl, rfl, Lib.hid (fun q hq => absurd hq (by omega))⟩
        case round =>
          obtain ⟨j, hj, rfl, rfl, HQ⟩ := hrel
          by_cases hjl : j < s.size
          · have hj0 : (0 : Int) ≤ j := by omega
            have hj1 : (j : Int) < s.size := by omega
            have hxj : ∀ h : j < s.size, ((s[j]'h).toNat : Int) = bt s j := bt_at s (j : Int)
            by_cases c1 : bt s j < 48
            · have HN := Lib.hid (show ¬ Plain s from fun h => by have := (h.2.2 j hjl).1; omega)
              have c1b : decide (bt s j < 48) = true := decide_eq_true c1
              clear c1
              go_wp2_with fail
              go_ret2
              exact ⟨.inr ⟨.inl HN.out, _, rfl⟩, Below.refl _ _⟩
            · by_cases c2 : 57 < bt s j
              · have HN := Lib.hid (show ¬ Plain s from fun h => by have := (h.2.2 j hjl).2; omega)
                have c1b : decide (bt s j < 48) = false := decide_eq_false c1
                have c2b : decide (57 < bt s j) = true := decide_eq_true c2
                clear c1 c2
                go_wp2_with fail
                go_ret2
                exact ⟨.inr ⟨.inl HN.out, _, rfl⟩, Below.refl _ _⟩
              · have c1b : decide (bt s j < 48) = false := decide_eq_false c1
                have c2b : decide (57 < bt s j) = false := decide_eq_false c2
                have HC := Lib.hid (And.intro c1 c2)
                clear c1 c2
                go_wp2_with fail
                refine ⟨⟨j + 1, by omega, by go_num, trivial, Lib.hid (fun q hq => ?_)⟩, by simp [intOf]; omega⟩
                by_cases e : q = j
                · subst e
                  have := HC.out
                  omega
                · exact HQ.out q (by omega)
          · have hj1 : ¬ (j : Int) < s.size := by omega
            have HPL := Lib.hid (show Plain s from ⟨hs0, HZ.out, fun q hq => HQ.out q (by omega)⟩)
            go_wp2_with fail
            refine (CP.out _ HE.out).mono ?_
            rintro e w1 ⟨hP | ⟨hP, v, N, rfl⟩, hb⟩
            · obtain ⟨u, hP, rfl⟩ := hP
              have HP2 := Lib.hid hP
              clear hP
              go_wp2_with fail
              go_region
              go_wp2_with fail
              go_ret2
              exact ⟨.inl ⟨u, HPL.out, HP2.out, rfl⟩, below_drew1 hb⟩
            · have HP2 := Lib.hid hP
              clear hP
              go_wp2_with fail
              go_region
              go_wp2_with fail
              go_ret2
              exact ⟨.inr ⟨.inr HP2.out, _, rfl⟩, below_drew1 hb⟩
      · have hz1' : ¬ (1 : Int) < s.size := by omega
        clear hz
        go_wp2_with fail
        go_loopw [6] (fun v wr => ∃ j : Nat, j ≤ s.size ∧ v = .int .i64 j ∧ wr = w ∧ Hid (∀ q : Nat, q < j → 48 ≤ bt s q ∧ bt s q ≤ 57)) (fun v _ => s.size - (intOf v).toNat)
        case atStart => exact ⟨0, by omega, rfl, rfl, Lib.hid (fun q hq => absurd hq (by omega))⟩
        case round =>
          obtain ⟨j, hj, rfl, rfl, HQ⟩ := hrel
          by_cases hjl : j < s.size
          · have hj0 : (0 : Int) ≤ j := by omega
            have hj1 : (j : Int) < s.size := by omega
            have hxj : ∀ h : j < s.size, ((s[j]'h).toNat : Int) = bt s j := bt_at s (j : Int)
            by_cases c1 : bt s j < 48
            · have HN := Lib.hid (show ¬ Plain s from fun h => by have := (h.2.2 j hjl).1; omega)
              have c1b : decide (bt s j < 48) = true := decide_eq_true c1
              clear c1
              go_wp2_with fail
              go_ret2
              exact ⟨.inr ⟨.inl HN.out, _, rfl⟩, Below.refl _ _⟩
            · by_cases c2 : 57 < bt s j
              · have HN := Lib.hid (show ¬ Plain s from fun h => by have := (h.2.2 j hjl).2; omega)
                have c1b : decide (bt s j < 48) = false := decide_eq_false c1
                have c2b : decide (57 < bt s j) = true := decide_eq_true c2
                clear c1 c2
                go_wp2_with fail
                go_ret2
                exact ⟨.inr ⟨.inl HN.out, _, rfl⟩, Below.refl _ _⟩
              · have c1b : decide (bt s j < 48) = false := decide_eq_false c1
                have c2b : decide (57 < bt s j) = false := decide_eq_false c2
                have HC := Lib.hid (And.intro c1 c2)
                clear c1 c2
                go_wp2_with fail
                refine ⟨⟨j + 1, by omega, by go_num, trivial, Lib.hid (fun q hq => ?_)⟩, by simp [intOf]; omega⟩
                by_cases e : q = j
                · subst e
                  have := HC.out
                  omega
                · exact HQ.out q (by omega)
          · have hj1 : ¬ (j : Int) < s.size := by omega
            have HPL := Lib.hid (show Plain s from ⟨hs0, HZ.out, fun q hq => HQ.out q (by omega)⟩)
            go_wp2_with fail
            refine (CP.out _ HE.out).mono ?_
            rintro e w1 ⟨hP | ⟨hP, v, N, rfl⟩, hb⟩
            · obtain ⟨u, hP, rfl⟩ := hP
              have HP2 := Lib.hid hP
              clear hP
              go_wp2_with fail
              go_region
              go_wp2_with fail
              go_ret2
              exact ⟨.inl ⟨u, HPL.out, HP2.out, rfl⟩, below_drew1 hb⟩
            · have HP2 := Lib.hid hP
              clear hP
              go_wp2_with fail
              go_region
              go_wp2_with fail
              go_ret2
              exact ⟨.inr ⟨.inr HP2.out, _, rfl⟩, below_drew1 hb⟩
end Go.Proofs.YtljkipkcabjcaaaDoor.PStampParses
