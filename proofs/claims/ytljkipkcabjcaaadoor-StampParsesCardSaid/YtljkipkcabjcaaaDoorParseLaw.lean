/-
  What the parts of a text say of it.
-/
import Derived.Test.YtljkipkcabjcaaaDoorLaw
namespace Go.Proofs.YtljkipkcabjcaaaDoor.PStampParses
open Go.RowKit Go.Proofs.YtljkipkcabjcaaaDoorW.PrintWords
set_option linter.unusedVariables false
set_option linter.unusedSimpArgs false
theorem bt_list (s : ByteArray) (q : Nat) (h : q < s.data.toList.length) : bt s q = ((s.data.toList[q]'h).toNat : Int) := by
  have h2 : q < s.size := by rw [← data_length]; exact h
  rw [← bt_at s (q : Int) h2]
  rfl
theorem plain_can (s : ByteArray) : Plain s ↔ Can s.data.toList := by
  have hl : s.data.toList.length = s.size := data_length s
  have hd : (∀ q : Nat, q < s.size → 48 ≤ bt s q ∧ bt s q ≤ 57) ↔ Dig s.data.toList := by
    constructor
    · intro h x hx
      obtain ⟨q, hq, rfl⟩ := List.mem_iff_getElem.1 hx
      have := h q (by omega)
      rw [bt_list s q hq] at this
      omega
    · intro h q hq
      have := h (s.data.toList[q]'(by omega)) (List.getElem_mem _)
      rw [bt_list s q (by omega)]
      omega
  have hz : 0 < s.size → (bt s 0 = 48 ↔ s.data.toList.head? = some 48) := fun h0 => by
    have := bt_list s 0 (by omega)
    rw [show ((0 : Nat) : Int) = 0 from rfl] at this
    rw [this, List.head?_eq_getElem?, List.getElem?_eq_getElem (by omega)]
    constructor
    · intro h
      have : (s.data.toList[0]'(by omega)) = 48 := UInt8.toNat_inj.1 (by
        have h48 : (48 : UInt8).toNat = 48 := rfl
        omega)
      rw [this]
    · intro h
      rw [Option.some.inj h]
      rfl
  unfold Plain Can
  rw [hd, hl]
  constructor
  · rintro ⟨h1, h2, h3⟩
    exact ⟨fun e => by rw [e] at hl; simp at hl; omega, fun h4 h5 => h2 ⟨h4, (hz h1).2 h5⟩, h3⟩
  · rintro ⟨h1, h2, h3⟩
    have h0 : 0 < s.size := by
      have := List.length_pos_iff.2 h1
      omega
    exact ⟨h0, fun h4 => h2 h4.1 ((hz h0).1 h4.2), h3⟩
theorem numbered_text {B : Nat} (hB : 2 ^ B - 1 ≤ 18446744073709551615) {s : ByteArray} {e : Ending} (h : Numbered B s e) :
    (∃ u : Nat, u ≤ 2 ^ B - 1 ∧ s = dB u ∧ e = .returned (.tuple #[.int .u64 (u : Int), .bool true])) ∨ ((∀ u : Nat, u ≤ 2 ^ B - 1 → s ≠ dB u) ∧ ∃ v : Int, e = .returned (.tuple #[.int .u64 v, .bool false])) := by
  rcases h with ⟨u, hp, hu, rfl⟩ | ⟨hn, hv⟩
  · have hc := (plain_can s).1 hp
    unfold Lib.parseUintB at hu
    rw [if_neg hc.1] at hu
    obtain ⟨h1, h2⟩ := of_parse _ 0 u (Nat.zero_le _) hu
    refine .inl ⟨u, h2, ?_, rfl⟩
    have := can_dec _ _ (Nat.le_refl _) hc
    rw [h1] at this
    rw [dB, ← this, bA_data]
  · refine .inr ⟨fun u hu e => ?_, hv⟩
    subst e
    obtain ⟨hc, hval, _⟩ := dec_can u
    have hdl : (dB u).data.toList = Lib.decDigits u := by simp [dB, bA]
    rcases hn with hn | hn
    · exact hn ((plain_can _).2 (by rw [hdl]; exact hc))
    · refine hn u ?_
      unfold Lib.parseUintB
      rw [hdl, if_neg hc.1, parse_of hB _ 0 hc.2.2 (by rw [hval]; exact hu), hval]
/-- The parts of a text. -/
def parts (s : ByteArray) : List ByteArray := Lib.splitB ⟨#[46]⟩ 0 (Lib.countB s ⟨#[46]⟩) s
theorem parts_spl (s : ByteArray) : (parts s).map (·.data.toList) = spl s.data.toList := by
  unfold parts
  rw [Lib.splitB_data]
  refine splitK_spl _ _ ?_
  show _ = Lib.count s.data.toList [46]
  rw [Lib.count_one]
theorem parts_eq (s : ByteArray) : parts s = (spl s.data.toList).map bA := by
  rw [← parts_spl, List.map_map]
  have : (bA ∘ fun x : ByteArray => x.data.toList) = id := by
    funext x
    exact bA_data x
  rw [this, List.map_id]
theorem dig_no {l : List UInt8} (h : Dig l) : 46 ∉ l := fun hm => by
  have := h 46 hm
  have h46 : (46 : UInt8).toNat = 46 := rfl
  omega
theorem parts_tB (a b c : Nat) : parts (tB a b c) = [dB a, dB b, dB c] := by
  have e : (tB a b c).data.toList = Lib.decDigits a ++ 46 :: (Lib.decDigits b ++ 46 :: Lib.decDigits c) := by simp [tB, bA]
  rw [parts_eq, e, spl_at _ _ (dig_no (dec_can a).1.2.2), spl_at _ _ (dig_no (dec_can b).1.2.2), spl_none _ (dig_no (dec_can c).1.2.2)]
  rfl
theorem of_parts {s p q r : ByteArray} (h : parts s = [p, q, r]) : s = bA (p.data.toList ++ 46 :: (q.data.toList ++ 46 :: r.data.toList)) := by
  have hs := parts_spl s
  rw [h] at hs
  simp only [List.map_cons, List.map_nil] at hs
  obtain ⟨_, j1⟩ := (spl_of s.data.toList).2 _ _ hs.symm
  obtain ⟨m, hm, hs2⟩ := j1 (by simp)
  obtain ⟨_, j2⟩ := (spl_of m).2 _ _ hs2
  obtain ⟨n, hn, hs3⟩ := j2 (by simp)
  have hs4 := (spl_of n).1 _ hs3
  rw [hs4] at hn
  rw [hn] at hm
  rw [← hm, bA_data]
theorem text_parts {s p q r : ByteArray} (h : parts s = [p, q, r]) {a b c : Nat} (h1 : p = dB a) (h2 : q = dB b) (h3 : r = dB c) : s = tB a b c := by
  have e := of_parts h
  subst h1 h2 h3
  rw [e]
  simp [tB, dB, bA]
theorem parts_length (s : ByteArray) : (parts s).length = Lib.countB s ⟨#[46]⟩ + 1 := by
  have h1 : (parts s).length = (spl s.data.toList).length := by rw [parts_eq, List.length_map]
  rw [h1, spl_length, ← Lib.count_one]
/-- The text's stamp, if it is one. -/
def IsText (s : ByteArray) (a b c : Nat) : Prop := s = tB a b c ∧ a ≤ 18446744073709551615 ∧ b ≤ 4294967295 ∧ c ≤ 4294967295
theorem isText_parts {s : ByteArray} {a b c : Nat} (h : IsText s a b c) : parts s = [dB a, dB b, dB c] := by
  rw [h.1]
  exact parts_tB a b c
theorem dB_inj {a b : Nat} (h : dB a = dB b) : a = b := by
  have := bA_inj h
  rw [← (dec_can a).2.1, ← (dec_can b).2.1, this]
theorem isText_uniq {s : ByteArray} {a b c a' b' c' : Nat} (h : IsText s a b c) (h' : IsText s a' b' c') : a = a' ∧ b = b' ∧ c = c' := by
  have e := (isText_parts h).symm.trans (isText_parts h')
  simp only [List.cons.injEq, and_true] at e
  exact ⟨dB_inj e.1, dB_inj e.2.1, dB_inj e.2.2⟩
theorem nDigits_le : ∀ (k u : Nat), u < 10 ^ (k + 1) → Lib.nDigits u ≤ k + 1
  | 0, u, h => by rw [Lib.nDigits_small (by simpa using h)]; exact Nat.le_refl _
  | k + 1, u, h => by
    by_cases h10 : u < 10
    · rw [Lib.nDigits_small h10]
      omega
    · rw [Lib.nDigits_big h10]
      have := nDigits_le k (u / 10) (by rw [Nat.pow_succ] at h; omega)
      omega
theorem isText_size {s : ByteArray} {a b c : Nat} (h : IsText s a b c) : s.size ≤ 42 := by
  have h1 := nDigits_le20 a (by have := h.2.1; omega)
  have small : ∀ u : Nat, u ≤ 4294967295 → Lib.nDigits u ≤ 10 := fun u hu => nDigits_le 9 u (by omega)
  have h2 := small b h.2.2.1
  have h3 := small c h.2.2.2
  rw [h.1, tB, bA_size]
  simp only [List.length_append, List.length_cons, Lib.decDigits_length]
  omega
end Go.Proofs.YtljkipkcabjcaaaDoor.PStampParses
