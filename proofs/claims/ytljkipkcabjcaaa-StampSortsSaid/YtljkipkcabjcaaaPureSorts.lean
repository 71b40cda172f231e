/-
  The document's Sort over plain lists: each stamp as often as before, rising.
-/
import Derived.Test.YtljkipkcabjcaaaPStampSortsx3
namespace Go.Proofs.Ytljkipkcabjcaaa.PStampSorts
set_option linter.unusedSimpArgs false
set_option linter.unusedVariables false
open Go.RowKit Go.Proofs.YtljkipkcabjcaaaW.PrintWords
theorem S25_eta (s : S25) : (⟨s.f0, s.f1, s.f2⟩ : S25) = s := rfl
theorem up {i n : Nat} (h : i < n) (hn : n ≤ 140737488351232) : wrap64 ((i : Int) + 1) = ((i + 1 : Nat) : Int) := by unfold wrap64; omega
theorem rd_at (xs : List S25) (i : Nat) (h : i < xs.length) : rd_T25 xs (i : Int) = xs[i] := by simp [rd_T25, h]
/-- The order of stamps. -/
def lt (a b : S25) : Bool := decide (a.f0 < b.f0 ∨ (a.f0 = b.f0 ∧ (a.f1 < b.f1 ∨ (a.f1 = b.f1 ∧ a.f2 < b.f2))))
theorem lt_irrefl (a : S25) : lt a a = false := by simp [lt]
theorem lt_trans {a b c : S25} (h : lt a b = true) (k : lt b c = true) : lt a c = true := by
  simp only [lt, decide_eq_true_eq] at *
  omega
theorem lt_ntrans {a b c : S25} (h : lt a b = false) (k : lt b c = false) : lt a c = false := by
  simp only [lt, decide_eq_false_iff_not] at *
  omega
theorem lt_asymm {a b : S25} (h : lt a b = true) : lt b a = false := by
  simp only [lt, decide_eq_true_eq, decide_eq_false_iff_not] at *
  omega
theorem lt_total {a b : S25} (h : lt a b = false) (k : lt b a = false) : a = b := by
  simp only [lt, decide_eq_false_iff_not] at *
  obtain ⟨a0, a1, a2⟩ := a
  obtain ⟨b0, b1, b2⟩ := b
  simp only [S25.mk.injEq]
  simp only at h k
  omega
theorem less_ref (a b : S25) : tidemarkref1_Less.f a.f0 a.f1 a.f2 b.f0 b.f1 b.f2 = some (lt a b) := by
  obtain ⟨a, b', c⟩ := a
  obtain ⟨d, e, f⟩ := b
  unfold tidemarkref1_Less.f lt
  simp only
  split
  · rename_i h
    simp [h]
  · split
    · split
      · rename_i h1 h2 h3
        simp [h2, h3]
      · split
        · simp only [Option.some.injEq, decide_eq_decide]; omega
        · rename_i h1 h2 h3 h4
          have : ¬ (a < d ∨ (a = d ∧ (b' < e ∨ (b' = e ∧ c < f)))) := by omega
          simp only [this, decide_false]
    · rename_i h1 h2
      have : ¬ (a < d ∨ (a = d ∧ (b' < e ∨ (b' = e ∧ c < f)))) := by omega
      simp only [this, decide_false]
theorem insert_l1 (xs : List S25) (hn : xs.length ≤ 8796093021952) (d : Nat) : ∀ (k i : Nat) (acc : List S25), i + d = xs.length → d < k → acc.length + d ≤ 8796093021953 → tidemarkref1_insert.l1 k xs acc i = some (acc ++ xs.drop i) := by
  induction d with
  | zero =>
    intro k i acc h hk ha
    obtain ⟨k, rfl⟩ : ∃ m, k = m + 1 := ⟨k - 1, by omega⟩
    simp only [tidemarkref1_insert.l1]
    rw [if_neg (by omega), List.drop_of_length_le (by omega), List.append_nil]
  | succ d ih =>
    intro k i acc h hk ha
    obtain ⟨k, rfl⟩ : ∃ m, k = m + 1 := ⟨k - 1, by omega⟩
    simp only [tidemarkref1_insert.l1]
    rw [if_pos (by omega), if_pos (by omega), if_pos (by omega), up (n := xs.length) (by omega) (by omega), rd_at xs i (by omega), S25_eta]
    rw [ih k (i + 1) _ (by omega) (by omega) (by rw [List.length_append]; simp; omega)]
    rw [List.drop_eq_getElem_cons (show i < xs.length by omega), List.append_assoc]
    rfl
theorem insert_l0 (xs : List S25) (s : S25) (p : Nat) (hp : p ≤ xs.length) (hn : xs.length ≤ 8796093021952) (d : Nat) : ∀ (k i : Nat), i + d = p → d + xs.length + 1 < k → tidemarkref1_insert.l0 k xs p (xs.take i) i s.f0 s.f1 s.f2 = some (xs.take p ++ s :: xs.drop p) := by
  induction d with
  | zero =>
    intro k i h hk
    obtain ⟨k, rfl⟩ : ∃ m, k = m + 1 := ⟨k - 1, by omega⟩
    obtain rfl : i = p := by omega
    simp only [tidemarkref1_insert.l0]
    rw [if_neg (by omega), if_pos (by rw [List.length_take]; omega), S25_eta]
    rw [insert_l1 xs hn (xs.length - i) k i _ (by omega) (by omega) (by rw [List.length_append, List.length_take]; simp; omega), List.append_assoc]
    rfl
  | succ d ih =>
    intro k i h hk
    obtain ⟨k, rfl⟩ : ∃ m, k = m + 1 := ⟨k - 1, by omega⟩
    simp only [tidemarkref1_insert.l0]
    rw [if_pos (by omega), if_pos (by omega), if_pos (by omega), if_pos (by rw [List.length_take]; omega), up (n := xs.length) (by omega) (by omega), rd_at xs i (by omega), S25_eta]
    rw [show xs.take i ++ [xs[i]'(by omega)] = xs.take (i + 1) from by rw [List.take_succ_eq_append_getElem (by omega)]]
    exact ih k (i + 1) (by omega) (by omega)
theorem insert_is (xs : List S25) (s : S25) (p : Nat) (hp : p ≤ xs.length) (hn : xs.length ≤ 8796093021952) {k : Nat} (hk : 2 * xs.length + 1 < k) : tidemarkref1_insert.f k xs p s.f0 s.f1 s.f2 = some (xs.take p ++ s :: xs.drop p) := by
  unfold tidemarkref1_insert.f
  exact insert_l0 xs s p hp hn p k 0 (by omega) (by omega)
/-- A list with one more, ahead of the first one above it. -/
def ins (s : S25) (l : List S25) : List S25 := l.take (l.findIdx (lt s)) ++ s :: l.drop (l.findIdx (lt s))
def sortL : List S25 → List S25 → List S25
  | out, [] => out
  | out, s :: l => sortL (ins s out) l
theorem ins_length (s : S25) (l : List S25) : (ins s l).length = l.length + 1 := by
  have := List.findIdx_le_length (xs := l) (p := lt s)
  simp [ins]
  omega
theorem sort_l1 (xs out : List S25) (i : Nat) (hi : i < xs.length) (hn : xs.length ≤ 8796093021952) (ho : out.length ≤ xs.length) (m : Nat) : ∀ (k p : Nat), m ≤ out.length → p = m + (out.drop m).findIdx (lt xs[i]) → m + 2 * out.length + 2 < k →
    ∃ k', k' + m + 1 = k ∧ tidemarkref1_Sort.l1 k xs out i p ((m : Int) - 1) = tidemarkref1_Sort.l0 k' xs (ins xs[i] out) ((i + 1 : Nat) : Int) := by
  induction m with
  | zero =>
    intro k p hm hp hk
    obtain ⟨k, rfl⟩ : ∃ m, k = m + 1 := ⟨k - 1, by omega⟩
    refine ⟨k, by omega, ?_⟩
    simp only [tidemarkref1_Sort.l1]
    rw [List.drop_zero, Nat.zero_add] at hp
    have hpl : p ≤ out.length := by rw [hp]; exact List.findIdx_le_length
    rw [if_neg (by omega), if_pos (by omega), if_pos (by omega), up (n := xs.length) (by omega) (by omega), rd_at xs i hi]
    rw [insert_is out xs[i] p hpl (by omega) (by omega)]
    simp only [Option.bind_some]
    rw [hp]
    rfl
  | succ m ih =>
    intro k p hm hp hk
    obtain ⟨k, rfl⟩ : ∃ m, k = m + 1 := ⟨k - 1, by omega⟩
    have e1 : (((m + 1 : Nat) : Int) - 1) = (m : Int) := by omega
    have e2 : wrap64 ((m : Int) - 1) = (m : Int) - 1 := by unfold wrap64; omega
    have ed : (out.drop m).findIdx (lt xs[i]) = if lt xs[i] (out[m]'(by omega)) = true then 0 else (out.drop (m + 1)).findIdx (lt xs[i]) + 1 := by
      rw [List.drop_eq_getElem_cons (by omega), List.findIdx_cons]
      cases lt xs[i] (out[m]'(by omega)) <;> rfl
    simp only [tidemarkref1_Sort.l1]
    rw [e1, if_pos (by omega), if_pos (by omega), if_pos (by omega), if_pos (by omega), if_pos (by omega), rd_at xs i hi, rd_at out m (by omega), less_ref, e2]
    simp only [Option.bind_some]
    by_cases h : lt xs[i] (out[m]'(by omega)) = true
    · rw [if_pos h]
      rw [if_pos h] at ed
      obtain ⟨k', hk', he⟩ := ih k m (by omega) (by omega) (by omega)
      exact ⟨k', by omega, he⟩
    · rw [if_neg h]
      rw [if_neg h] at ed
      obtain ⟨k', hk', he⟩ := ih k p (by omega) (by omega) (by omega)
      exact ⟨k', by omega, he⟩
theorem sort_l0 (xs : List S25) (hn : xs.length ≤ 8796093021952) (d : Nat) : ∀ (k i : Nat) (out : List S25), i + d = xs.length → out.length = i → d * (3 * xs.length + 10) + 1 < k → tidemarkref1_Sort.l0 k xs out i = some (sortL out (xs.drop i)) := by
  induction d with
  | zero =>
    intro k i out h ho hk
    obtain ⟨k, rfl⟩ : ∃ m, k = m + 1 := ⟨k - 1, by omega⟩
    simp only [tidemarkref1_Sort.l0]
    rw [if_neg (by omega), List.drop_of_length_le (by omega)]
    rfl
  | succ d ih =>
    intro k i out h ho hk
    obtain ⟨k, rfl⟩ : ∃ m, k = m + 1 := ⟨k - 1, by omega⟩
    have hk2 : (d + 1) * (3 * xs.length + 10) = d * (3 * xs.length + 10) + (3 * xs.length + 10) := Nat.succ_mul _ _
    simp only [tidemarkref1_Sort.l0]
    have e2 : wrap64 ((out.length : Int) - 1) = (out.length : Int) - 1 := by unfold wrap64; omega
    rw [if_pos (by omega), e2]
    obtain ⟨k', hk', he⟩ := sort_l1 xs out i (by omega) hn (by omega) out.length k out.length (Nat.le_refl _) (by rw [List.drop_of_length_le (Nat.le_refl _)]; rfl) (by omega)
    rw [he, ih k' (i + 1) _ (by omega) (by rw [ins_length]; omega) (by omega)]
    rw [List.drop_eq_getElem_cons (show i < xs.length by omega)]
    rfl
theorem refSort_is (xs : List S25) (hn : xs.length ≤ 8796093021952) : ∃ k, tidemarkref1_Sort.f k xs = some (sortL [] xs) :=
  ⟨xs.length * (3 * xs.length + 10) + 2, by
    unfold tidemarkref1_Sort.f
    exact sort_l0 xs hn xs.length _ 0 [] (by omega) rfl (by omega)⟩
/-- Rising. -/
def Rising (l : List S25) : Prop := l.Pairwise fun a b => lt b a = false
theorem ins_perm (s : S25) (l : List S25) : (ins s l).Perm (s :: l) := by
  unfold ins
  refine List.perm_middle.trans ?_
  rw [List.take_append_drop]
theorem ins_rising (s : S25) (l : List S25) (h : Rising l) : Rising (ins s l) := by
  have hsplit : l.take (l.findIdx (lt s)) ++ l.drop (l.findIdx (lt s)) = l := List.take_append_drop _ _
  have h' := h
  rw [Rising, ← hsplit, List.pairwise_append] at h'
  obtain ⟨h1, h2, h3⟩ := h'
  have hlo : ∀ a ∈ l.take (l.findIdx (lt s)), lt s a = false := by
    intro a ha
    obtain ⟨j, hj⟩ := List.mem_iff_getElem?.1 ha
    rw [List.getElem?_take] at hj
    split at hj
    · rename_i hlt
      have hjl : j < l.length := (List.getElem?_eq_some_iff.1 hj).1
      have e := List.not_of_lt_findIdx hlt
      have e3 : l[j]? = some l[j] := List.getElem?_eq_getElem hjl
      rw [hj] at e3
      cases e3
      simpa using e
    · simp at hj
  have hhi : ∀ b ∈ l.drop (l.findIdx (lt s)), lt s b = true := by
    intro b hb
    have hlen : l.findIdx (lt s) < l.length := by
      by_cases h : l.findIdx (lt s) < l.length
      · exact h
      · rw [List.drop_of_length_le (by omega)] at hb
        simp at hb
    have hhead : lt s l[l.findIdx (lt s)] = true := List.findIdx_getElem (w := hlen)
    rw [List.drop_eq_getElem_cons hlen] at hb h2
    rcases List.mem_cons.1 hb with rfl | hb
    · exact hhead
    · have := (List.pairwise_cons.1 h2).1 b hb
      by_cases hs : lt s b = true
      · exact hs
      · have hs' : lt s b = false := by simpa using hs
        have := lt_ntrans hs' this
        rw [hhead] at this
        exact absurd this (by simp)
  unfold ins Rising
  rw [List.pairwise_append]
  refine ⟨h1, List.pairwise_cons.2 ⟨fun b hb => lt_asymm (hhi b hb), h2⟩, fun a ha b hb => ?_⟩
  rcases List.mem_cons.1 hb with rfl | hb
  · exact hlo a ha
  · exact h3 a ha b hb
theorem sortL_spec : ∀ (l out : List S25), Rising out → Rising (sortL out l) ∧ (sortL out l).Perm (out ++ l)
  | [], out, h => ⟨h, by simp [sortL]⟩
  | s :: l, out, h => by
    obtain ⟨h1, h2⟩ := sortL_spec l (ins s out) (ins_rising s out h)
    refine ⟨h1, h2.trans ?_⟩
    refine ((ins_perm s out).append_right l).trans ?_
    exact List.perm_middle.symm
end Go.Proofs.Ytljkipkcabjcaaa.PStampSorts
