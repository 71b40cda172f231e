/-
  The plain law of the texts: digits, numerals, and the three parts between the points.
-/
import Derived.Test.YtljkipkcabjcaaaDoorNumber
import Derived.Lib.SplitLaws
namespace Go.Proofs.YtljkipkcabjcaaaDoor.PStampParses
open Go.RowKit Go.Proofs.YtljkipkcabjcaaaDoorW.PrintWords
set_option linter.unusedVariables false
set_option linter.unusedSimpArgs false
def Dig (l : List UInt8) : Prop := ∀ x ∈ l, 48 ≤ x.toNat ∧ x.toNat ≤ 57
/-- What a row of digits spells, behind acc. -/
def val (acc : Nat) (l : List UInt8) : Nat := l.foldl (fun a c => a * 10 + (c.toNat - 48)) acc
theorem val_nil (acc : Nat) : val acc [] = acc := List.foldl_nil
theorem val_cons (acc : Nat) (c : UInt8) (r : List UInt8) : val acc (c :: r) = val (acc * 10 + (c.toNat - 48)) r := List.foldl_cons ..
theorem val_le : ∀ (l : List UInt8) (acc : Nat), acc ≤ val acc l
  | [], acc => by rw [val_nil]; exact Nat.le_refl _
  | c :: r, acc => by
    have := val_le r (acc * 10 + (c.toNat - 48))
    rw [val_cons]
    omega
theorem val_snoc : ∀ (l : List UInt8) (acc : Nat) (c : UInt8), val acc (l ++ [c]) = val acc l * 10 + (c.toNat - 48)
  | [], acc, c => by rw [List.nil_append, val_cons, val_nil, val_nil]
  | d :: r, acc, c => by
    rw [List.cons_append, val_cons, val_cons]
    exact val_snoc r _ c
theorem parse_of {M : Nat} (hM : M ≤ 18446744073709551615) : ∀ (l : List UInt8) (acc : Nat), Dig l → val acc l ≤ M → Lib.parseUintM M acc l = .ok (val acc l)
  | [], acc, _, _ => by rw [val_nil, Lib.parseUintM]
  | c :: r, acc, hd, hv => by
    have hc := hd c (by simp)
    have hle := val_le r (acc * 10 + (c.toNat - 48))
    replace hv : val (acc * 10 + (c.toNat - 48)) r ≤ M := by rw [val_cons] at hv; exact hv
    show Lib.parseUintM M acc (c :: r) = .ok (val (acc * 10 + (c.toNat - 48)) r)
    unfold Lib.parseUintM
    rw [if_pos hc, if_neg (show ¬ 1844674407370955162 ≤ acc by omega), if_neg (show ¬ M < acc * 10 + (c.toNat - 48) by omega)]
    exact parse_of hM r _ (fun x hx => hd x (by simp [hx])) hv
theorem of_parse {M : Nat} : ∀ (l : List UInt8) (acc u : Nat), acc ≤ M → Lib.parseUintM M acc l = .ok u → val acc l = u ∧ u ≤ M
  | [], acc, u, ha, h => by
    unfold Lib.parseUintM at h
    simp only [Lib.NumEnd.ok.injEq] at h
    subst h
    exact ⟨val_nil _, ha⟩
  | c :: r, acc, u, ha, h => by
    unfold Lib.parseUintM at h
    split at h
    · split at h
      · cases h
      · split at h
        · cases h
        · rw [val_cons]
          exact of_parse r (acc * 10 + (c.toNat - 48)) u (by omega) h
    · cases h
/-- A numeral: digits, no leading zero. -/
def Can (l : List UInt8) : Prop := l ≠ [] ∧ (1 < l.length → l.head? ≠ some 48) ∧ Dig l
theorem digit_nat (u : Nat) (h : u < 10) : (UInt8.ofNat (48 + u)).toNat = 48 + u := by
  simp
  omega
theorem dec_can (u : Nat) : Can (Lib.decDigits u) ∧ val 0 (Lib.decDigits u) = u ∧ (1 ≤ u → (Lib.decDigits u).head? ≠ some 48) := by
  induction u using Nat.strongRecOn with
  | _ u ih =>
    by_cases h : u < 10
    · rw [Lib.decDigits_one h]
      refine ⟨⟨by simp, by simp, fun x hx => ?_⟩, ?_, fun h1 e => ?_⟩
      · simp only [List.mem_singleton] at hx
        subst hx
        rw [digit_nat u h]
        omega
      · rw [val_cons, val_nil, digit_nat u h]
        omega
      · simp only [List.head?_cons, Option.some.injEq] at e
        have := congrArg UInt8.toNat e
        rw [digit_nat u h] at this
        have h48 : (48 : UInt8).toNat = 48 := rfl
        omega
    · have e : Lib.decDigits u = Lib.decDigits (u / 10) ++ [UInt8.ofNat (48 + u % 10)] := by
        rw [Lib.decDigits, dif_neg h]
      obtain ⟨⟨i1, i2, i3⟩, i4, i5⟩ := ih (u / 10) (by omega)
      have hh : (Lib.decDigits u).head? = (Lib.decDigits (u / 10)).head? := by
        rw [e]
        cases hd : Lib.decDigits (u / 10) with
        | nil => exact absurd hd i1
        | cons x r => rfl
      have h5 := i5 (by omega)
      rw [← hh] at h5
      refine ⟨⟨by rw [e]; simp, fun _ => h5, fun x hx => ?_⟩, ?_, fun _ => h5⟩
      · rw [e] at hx
        rcases List.mem_append.1 hx with hx | hx
        · exact i3 x hx
        · simp only [List.mem_singleton] at hx
          subst hx
          rw [digit_nat _ (by omega)]
          omega
      · rw [e, val_snoc, i4, digit_nat _ (by omega)]
        omega
theorem can_dec : ∀ (n : Nat) (l : List UInt8), l.length ≤ n → Can l → l = Lib.decDigits (val 0 l)
  | 0, l, hn, h => absurd (List.eq_nil_of_length_eq_zero (by omega)) h.1
  | n + 1, l, hn, h => by
    obtain ⟨h1, h2, h3⟩ := h
    have hl : l = l.dropLast ++ [l.getLast h1] := (List.dropLast_concat_getLast h1).symm
    generalize l.getLast h1 = c at hl
    generalize hm : l.dropLast = m at hl
    subst hl
    have hc := h3 c (by simp)
    have ec : UInt8.ofNat (48 + (c.toNat - 48)) = c := by
      have : 48 + (c.toNat - 48) = c.toNat := by omega
      rw [this]
      simp
    rw [val_snoc]
    by_cases hmn : m = []
    · subst hmn
      have : val 0 [] * 10 + (c.toNat - 48) = c.toNat - 48 := by rw [val_nil]; omega
      rw [this, Lib.decDigits_one (by omega), ec]
      rfl
    · have hlen : 1 < (m ++ [c]).length := by
        have : 0 < m.length := List.length_pos_iff.2 hmn
        simp
        omega
      have hhead : m.head? ≠ some 48 := by
        have := h2 hlen
        cases m with
        | nil => exact absurd rfl hmn
        | cons x r => exact this
      have hcm : Can m := ⟨hmn, fun _ => hhead, fun x hx => h3 x (by simp [hx])⟩
      have ih := can_dec n m (by simp at hn; omega) hcm
      have hpos : 1 ≤ val 0 m := by
        cases m with
        | nil => exact absurd rfl hmn
        | cons x r =>
          have hx := h3 x (by simp)
          have hne : x.toNat ≠ 48 := fun e => hhead (by
            have : x = 48 := UInt8.toNat_inj.1 e
            rw [this]
            rfl)
          have := val_le r (0 * 10 + (x.toNat - 48))
          rw [val_cons]
          omega
      rw [Lib.decDigits, dif_neg (by omega)]
      have e1 : (val 0 m * 10 + (c.toNat - 48)) / 10 = val 0 m := by omega
      have e2 : (val 0 m * 10 + (c.toNat - 48)) % 10 = c.toNat - 48 := by omega
      rw [e1, e2, ec, ← ih]
/-- The parts between the points. -/
def spl : List UInt8 → List (List UInt8)
  | [] => [[]]
  | c :: r => if c = 46 then [] :: spl r else match spl r with
    | [] => [[c]]
    | p :: q => (c :: p) :: q
theorem spl_ne (l : List UInt8) : spl l ≠ [] := by
  cases l with
  | nil => simp [spl]
  | cons c r =>
    unfold spl
    split
    · simp
    · split <;> simp
theorem spl_none : ∀ (l : List UInt8), 46 ∉ l → spl l = [l]
  | [], _ => rfl
  | c :: r, h => by
    have hc : c ≠ 46 := fun e => h (by simp [e])
    unfold spl
    rw [if_neg hc, spl_none r (fun hm => h (by simp [hm]))]
theorem spl_at : ∀ (p l : List UInt8), 46 ∉ p → spl (p ++ 46 :: l) = p :: spl l
  | [], l, _ => by
    simp [spl]
  | c :: p, l, h => by
    have hc : c ≠ 46 := fun e => h (by simp [e])
    rw [List.cons_append, spl, if_neg hc, spl_at p l (fun hm => h (by simp [hm]))]
theorem spl_of : ∀ (l : List UInt8), (∀ p, spl l = [p] → l = p) ∧ (∀ p ps, spl l = p :: ps → 46 ∉ p ∧ (ps ≠ [] → ∃ m, l = p ++ 46 :: m ∧ spl m = ps))
  | [] => by
    refine ⟨fun p h => ?_, fun p ps h => ?_⟩
    · simp [spl] at h
      exact h.symm
    · simp [spl] at h
      obtain ⟨rfl, rfl⟩ := h
      simp
  | c :: r => by
    obtain ⟨i1, i2⟩ := spl_of r
    by_cases hc : c = 46
    · subst hc
      have e : spl (46 :: r) = [] :: spl r := by simp [spl]
      refine ⟨fun p h => ?_, fun p ps h => ?_⟩
      · rw [e] at h
        simp only [List.cons.injEq] at h
        exact absurd h.2 (spl_ne r)
      · rw [e] at h
        simp only [List.cons.injEq] at h
        obtain ⟨rfl, rfl⟩ := h
        exact ⟨by simp, fun _ => ⟨r, rfl, rfl⟩⟩
    · cases hr : spl r with
      | nil => exact absurd hr (spl_ne r)
      | cons q qs =>
        have e : spl (c :: r) = (c :: q) :: qs := by simp [spl, hc, hr]
        refine ⟨fun p h => ?_, fun p ps h => ?_⟩
        · rw [e] at h
          simp only [List.cons.injEq] at h
          obtain ⟨rfl, rfl⟩ := h
          rw [i1 q hr]
        · rw [e] at h
          simp only [List.cons.injEq] at h
          obtain ⟨rfl, rfl⟩ := h
          obtain ⟨j1, j2⟩ := i2 q qs hr
          refine ⟨?_, fun hne => ?_⟩
          · intro hm
            rcases List.mem_cons.1 hm with h' | h'
            · exact hc h'.symm
            · exact j1 h'
          · obtain ⟨m, hm, hs⟩ := j2 hne
            exact ⟨m, by rw [hm]; rfl, hs⟩
theorem spl_length : ∀ (l : List UInt8), (spl l).length = l.count 46 + 1
  | [] => rfl
  | c :: r => by
    have ih := spl_length r
    unfold spl
    by_cases hc : c = 46
    · subst hc
      rw [if_pos rfl, List.length_cons, ih, List.count_cons_self]
    · rw [if_neg hc, List.count_cons_of_ne (by simpa using hc), ← ih]
      cases hr : spl r with
      | nil => exact absurd hr (spl_ne r)
      | cons q qs => rfl
theorem index_at : ∀ (p l : List UInt8), 46 ∉ p → Lib.index (p ++ 46 :: l) [46] = (p.length : Int)
  | [], l, _ => by
    rw [List.nil_append, Lib.index]
    simp [List.isPrefixOf]
  | c :: p, l, h => by
    have hc : (46 == c) = false := beq_eq_false_iff_ne.2 (fun e => h (by simp [e]))
    have ih := index_at p l (fun hm => h (by simp [hm]))
    rw [List.cons_append, Lib.index, ih]
    have e : ((p.length : Int) == -1) = false := beq_eq_false_iff_ne.2 (by omega)
    simp [List.isPrefixOf, hc, e]
theorem first_split : ∀ (l : List UInt8), 46 ∈ l → ∃ p m, l = p ++ 46 :: m ∧ 46 ∉ p
  | [], h => by simp at h
  | c :: r, h => by
    by_cases hc : c = 46
    · subst hc
      exact ⟨[], r, rfl, by simp⟩
    · obtain ⟨p, m, rfl, hp⟩ := first_split r (by
        rcases List.mem_cons.1 h with h' | h'
        · exact absurd h'.symm hc
        · exact h')
      exact ⟨c :: p, m, rfl, fun hm => by
        rcases List.mem_cons.1 hm with h' | h'
        · exact hc h'.symm
        · exact hp h'⟩
theorem splitK_spl : ∀ (k : Nat) (l : List UInt8), l.count 46 = k → Lib.splitK [46] 0 k l = spl l
  | 0, l, h => by
    have hn : 46 ∉ l := fun hm => by
      have := List.count_pos_iff.2 hm
      omega
    rw [spl_none l hn]
    rfl
  | k + 1, l, h => by
    have hm : 46 ∈ l := List.count_pos_iff.1 (by omega)
    obtain ⟨p, m, rfl, hp⟩ := first_split l hm
    have hk : m.count 46 = k := by
      rw [List.count_append, List.count_cons_self, List.count_eq_zero.2 hp] at h
      omega
    rw [Lib.splitK, index_at p m hp, spl_at p m hp]
    have e : ((p.length : Int) == -1) = false := beq_eq_false_iff_ne.2 (by omega)
    rw [e]
    simp only [Bool.false_eq_true, if_false, Int.toNat_natCast, Nat.add_zero, List.length_singleton]
    have e1 : (p ++ 46 :: m).take p.length = p := List.take_left
    have e2 : (p ++ 46 :: m).drop (p.length + 1) = m := by
      rw [List.drop_append]
      simp
    rw [e1, e2, splitK_spl k m hk]
end Go.Proofs.YtljkipkcabjcaaaDoor.PStampParses
