/-
  StampMaxes over plain lists: the greatest of a list by the program and by the document are the same; what is laid into the room behind a list stays.
-/
import Derived.Test.YtljkipkcabjcaaaPStampMaxesx2
import Derived.Test.YtljkipkcabjcaaaPStampMaxesx3
namespace Go.Proofs.Ytljkipkcabjcaaa.PStampMaxes
set_option linter.unusedSimpArgs false
set_option linter.unusedVariables false
open Go.RowKit Go.Proofs.YtljkipkcabjcaaaW.PrintWords
theorem S25_eta (s : S25) : (⟨s.f0, s.f1, s.f2⟩ : S25) = s := rfl
theorem up {i n : Nat} (h : i < n) (hn : n ≤ 140737488351232) : wrap64 ((i : Int) + 1) = ((i + 1 : Nat) : Int) := by unfold wrap64; omega
theorem rd_at (xs : List S25) (i : Nat) (h : i < xs.length) : rd_T25 xs (i : Int) = xs[i] := by simp [rd_T25, h]
theorem cut_loop (xs : List S25) (hn : xs.length ≤ 8796093021952) (d : Nat) : ∀ (k i : Nat), i + d = xs.length → d < k → tidemarklaw1_cut.l0 k xs (xs.take i) i = some xs := by
  induction d with
  | zero =>
    intro k i h hk
    obtain ⟨k, rfl⟩ : ∃ m, k = m + 1 := ⟨k - 1, by omega⟩
    simp only [tidemarklaw1_cut.l0]
    rw [if_neg (by omega), List.take_of_length_le (by omega)]
  | succ d ih =>
    intro k i h hk
    obtain ⟨k, rfl⟩ : ∃ m, k = m + 1 := ⟨k - 1, by omega⟩
    simp only [tidemarklaw1_cut.l0]
    rw [if_pos (by omega), if_pos (by omega), if_pos (by rw [List.length_take]; omega), up (n := xs.length) (by omega) (by omega), rd_at xs i (by omega)]
    rw [show xs.take i ++ [(⟨(xs[i]'(by omega)).f0, (xs[i]'(by omega)).f1, (xs[i]'(by omega)).f2⟩ : S25)] = xs.take (i + 1) from by rw [List.take_succ_eq_append_getElem (by omega)]]
    exact ih k (i + 1) (by omega) (by omega)
theorem cut_is (xs : List S25) (hn : xs.length ≤ 8796093021952) {k : Nat} (hk : xs.length < k) : tidemarklaw1_cut.f k xs = some xs := by
  unfold tidemarklaw1_cut.f
  exact cut_loop xs hn xs.length k 0 (by omega) hk
/-- The mark at a place. -/
def mark (i : Nat) : S25 := ⟨9, (i : Int) % 4294967296, 9⟩
/-- The list with marks behind it. -/
def Room (l r : List S25) : Prop := r.length = 2 * l.length + 1 ∧ (∀ j, j < l.length → r[j]? = l[j]?) ∧ ∀ j, l.length ≤ j → j < r.length → r[j]? = some (mark j)
theorem room1 (l : List S25) (hn : l.length ≤ 8796093021952) (d : Nat) : ∀ (k i : Nat) (x : List S25), i + d = l.length → d < k → x.length = 2 * l.length + 1 → (∀ j, j < i → x[j]? = l[j]?) → (∀ j, i ≤ j → j < x.length → x[j]? = some (mark j)) →
    ∃ r, tidemarklaw1_roomy.l1 k l x i = some r ∧ Room l r := by
  induction d with
  | zero =>
    intro k i x h hk hx h1 h2
    obtain ⟨k, rfl⟩ : ∃ m, k = m + 1 := ⟨k - 1, by omega⟩
    simp only [tidemarklaw1_roomy.l1]
    rw [if_neg (by omega)]
    exact ⟨x, rfl, hx, fun j hj => h1 j (by omega), fun j hj hj2 => h2 j (by omega) hj2⟩
  | succ d ih =>
    intro k i x h hk hx h1 h2
    obtain ⟨k, rfl⟩ : ∃ m, k = m + 1 := ⟨k - 1, by omega⟩
    simp only [tidemarklaw1_roomy.l1]
    rw [if_pos (by omega), if_pos (by omega), if_pos (by omega), up (n := l.length) (by omega) (by omega), rd_at l i (by omega), S25_eta, Int.toNat_natCast]
    refine ih k (i + 1) _ (by omega) (by omega) (by rw [List.length_set]; exact hx) (fun j hj => ?_) (fun j hj hj2 => ?_)
    · by_cases e : i = j
      · subst e
        rw [List.getElem?_set_self (by omega), List.getElem?_eq_getElem (by omega)]
      · rw [List.getElem?_set_ne e]
        exact h1 j (by omega)
    · rw [List.length_set] at hj2
      rw [List.getElem?_set_ne (by omega)]
      exact h2 j (by omega) hj2
theorem room0 (l : List S25) (hn : l.length ≤ 8796093021952) (d : Nat) : ∀ (k i : Nat) (x : List S25), i + d = 2 * l.length + 1 → d + l.length + 1 < k → x.length = 2 * l.length + 1 → (∀ j, j < i → x[j]? = some (mark j)) →
    ∃ r, tidemarklaw1_roomy.l0 k l x i = some r ∧ Room l r := by
  induction d with
  | zero =>
    intro k i x h hk hx h1
    obtain ⟨k, rfl⟩ : ∃ m, k = m + 1 := ⟨k - 1, by omega⟩
    simp only [tidemarklaw1_roomy.l0]
    rw [if_neg (by omega)]
    exact room1 l hn l.length k 0 x (by omega) (by omega) hx (fun j hj => absurd hj (by omega)) (fun j _ hj => h1 j (by omega))
  | succ d ih =>
    intro k i x h hk hx h1
    obtain ⟨k, rfl⟩ : ∃ m, k = m + 1 := ⟨k - 1, by omega⟩
    simp only [tidemarklaw1_roomy.l0]
    rw [if_pos (by omega), if_pos (by omega), up (n := 2 * l.length + 1) (by omega) (by omega), Int.toNat_natCast]
    refine ih k (i + 1) _ (by omega) (by omega) (by rw [List.length_set]; exact hx) (fun j hj => ?_)
    by_cases e : i = j
    · subst e
      rw [List.getElem?_set_self (by omega)]
      rfl
    · rw [List.getElem?_set_ne e]
      exact h1 j (by omega)
theorem roomy_is (l : List S25) (hn : l.length ≤ 8796093021952) {k : Nat} (hk : 3 * l.length + 2 < k) : ∃ r, tidemarklaw1_roomy.f k l = some r ∧ Room l r := by
  unfold tidemarklaw1_roomy.f
  have e : wrap64 (wrap64 (2 * (l.length : Int)) + 1) = ((2 * l.length + 1 : Nat) : Int) := by unfold wrap64; omega
  rw [e, if_pos (by omega), if_pos (by omega), Int.toNat_natCast]
  exact room0 l hn (2 * l.length + 1) k 0 _ (by omega) (by omega) (by simp) (fun j hj => absurd hj (by omega))
theorem Room.take_ {l r : List S25} (h : Room l r) : r.take l.length = l := by
  apply List.ext_getElem?
  intro j
  by_cases hj : j < l.length
  · rw [List.getElem?_take_of_lt hj, h.2.1 j hj]
  · rw [List.getElem?_eq_none (by rw [List.length_take]; omega), List.getElem?_eq_none (by omega)]
def lt (a b : Int × Int × Int) : Bool := decide (a.1 < b.1 ∨ (a.1 = b.1 ∧ (a.2.1 < b.2.1 ∨ (a.2.1 = b.2.1 ∧ a.2.2 < b.2.2))))
theorem less_is (a b c d e f : Int) : stamp_Less.f a b c d e f = some (lt (a, b, c) (d, e, f)) := by
  unfold stamp_Less.f lt
  split
  · split <;> simp only [Option.some.injEq, decide_eq_decide] <;> omega
  · simp only [Option.some.injEq, decide_eq_decide]; omega
theorem less_ref (a b c d e f : Int) : tidemarkref1_Less.f a b c d e f = some (lt (a, b, c) (d, e, f)) := by
  unfold tidemarkref1_Less.f lt
  split
  · rename_i h
    simp [h]
  · split
    · split
      · rename_i h1 h2 h3
        simp [h2, h3]
      · split
        · simp only [Option.some.injEq, decide_eq_decide]; omega
        · rename_i h1 h2 h3 h4
          have : ¬ (a < d ∨ (a = d ∧ (b < e ∨ (b = e ∧ c < f)))) := by omega
          simp only [this, decide_false]
    · rename_i h1 h2
      have : ¬ (a < d ∨ (a = d ∧ (b < e ∨ (b = e ∧ c < f)))) := by omega
      simp only [this, decide_false]
def step (t : Int × Int × Int) (s : S25) : Int × Int × Int := if lt t (s.f0, s.f1, s.f2) = true then (s.f0, s.f1, s.f2) else t
def mx (t : Int × Int × Int) (l : List S25) : Int × Int × Int := l.foldl step t
theorem drop_at (xs : List S25) (i : Nat) (h : i < xs.length) : xs.drop i = xs[i] :: xs.drop (i + 1) := List.drop_eq_getElem_cons h
theorem max_loop (xs : List S25) (hn : xs.length ≤ 8796093021952) (d : Nat) : ∀ (k i : Nat) (a b c : Int), i + d = xs.length → d < k → stamp_Max.l0 k xs xs.length i a b c = some (mx (a, b, c) (xs.drop i)) := by
  induction d with
  | zero =>
    intro k i a b c h hk
    obtain ⟨k, rfl⟩ : ∃ m, k = m + 1 := ⟨k - 1, by omega⟩
    simp only [stamp_Max.l0]
    rw [if_neg (by omega), List.drop_of_length_le (by omega)]
    rfl
  | succ d ih =>
    intro k i a b c h hk
    obtain ⟨k, rfl⟩ : ∃ m, k = m + 1 := ⟨k - 1, by omega⟩
    simp only [stamp_Max.l0]
    rw [if_pos (by omega), if_pos (by omega), if_pos (by omega), up (n := xs.length) (by omega) (by omega), rd_at xs i (by omega), less_is, drop_at xs i (by omega)]
    simp only [Option.bind_some, mx, List.foldl_cons, step]
    by_cases e : lt (a, b, c) ((xs[i]'(by omega)).f0, (xs[i]'(by omega)).f1, (xs[i]'(by omega)).f2) = true
    · rw [if_pos e, if_pos e]
      exact ih k (i + 1) _ _ _ (by omega) (by omega)
    · rw [if_neg e, if_neg e]
      exact ih k (i + 1) _ _ _ (by omega) (by omega)
theorem max_is (xs : List S25) (hn : xs.length ≤ 8796093021952) {k : Nat} (hk : xs.length < k) : stamp_Max.f k xs = some (mx (0, 0, 0) xs) := by
  unfold stamp_Max.f
  exact max_loop xs hn xs.length k 0 0 0 0 (by omega) hk
theorem maxR_loop (xs : List S25) (hn : xs.length ≤ 8796093021952) (d : Nat) : ∀ (k i : Nat) (a b c : Int), i + d = xs.length → d < k → tidemarkref1_Max.l0 k xs i a b c = some (mx (a, b, c) (xs.drop i)) := by
  induction d with
  | zero =>
    intro k i a b c h hk
    obtain ⟨k, rfl⟩ : ∃ m, k = m + 1 := ⟨k - 1, by omega⟩
    simp only [tidemarkref1_Max.l0]
    rw [if_neg (by omega), List.drop_of_length_le (by omega)]
    rfl
  | succ d ih =>
    intro k i a b c h hk
    obtain ⟨k, rfl⟩ : ∃ m, k = m + 1 := ⟨k - 1, by omega⟩
    simp only [tidemarkref1_Max.l0]
    rw [if_pos (by omega), if_pos (by omega), up (n := xs.length) (by omega) (by omega), rd_at xs i (by omega), less_ref, drop_at xs i (by omega)]
    simp only [Option.bind_some, mx, List.foldl_cons, step]
    by_cases e : lt (a, b, c) ((xs[i]'(by omega)).f0, (xs[i]'(by omega)).f1, (xs[i]'(by omega)).f2) = true
    · rw [if_pos e, if_pos e]
      exact ih k (i + 1) _ _ _ (by omega) (by omega)
    · rw [if_neg e, if_neg e]
      exact ih k (i + 1) _ _ _ (by omega) (by omega)
theorem maxR_is (xs : List S25) (hn : xs.length ≤ 8796093021952) {k : Nat} (hk : xs.length < k) : tidemarkref1_Max.f k xs = some (mx (0, 0, 0) xs) := by
  unfold tidemarkref1_Max.f
  exact maxR_loop xs hn xs.length k 0 0 0 0 (by omega) hk
/-- No field below 0. -/
def Pos (s : S25) : Prop := 0 ≤ s.f0 ∧ 0 ≤ s.f1 ∧ 0 ≤ s.f2
theorem mx_pos : ∀ (l : List S25) (t : Int × Int × Int), (∀ s ∈ l, Pos s) → (0 ≤ t.1 ∧ 0 ≤ t.2.1 ∧ 0 ≤ t.2.2) → 0 ≤ (mx t l).1 ∧ 0 ≤ (mx t l).2.1 ∧ 0 ≤ (mx t l).2.2
  | [], t, _, h => h
  | s :: l, t, hl, h => by
    refine mx_pos l (step t s) (fun x hx => hl x (List.mem_cons_of_mem _ hx)) ?_
    unfold step
    split
    · exact hl s (by simp)
    · exact h
theorem mx_one (a b c : Int) (h : 0 ≤ a ∧ 0 ≤ b ∧ 0 ≤ c) : mx (0, 0, 0) [(⟨a, b, c⟩ : S25)] = (a, b, c) := by
  simp only [mx, List.foldl_cons, List.foldl_nil, step]
  by_cases e : lt (0, 0, 0) (a, b, c) = true
  · rw [if_pos e]
  · rw [if_neg e]
    simp only [lt, decide_eq_true_eq] at e
    simp only [Prod.mk.injEq]
    omega
theorem same_loop (xs : List S25) (hn : xs.length ≤ 8796093021952) (d : Nat) : ∀ (k i : Nat), i + d = xs.length → d < k → tidemarkref1_Same.l0 k xs xs i = some true := by
  induction d with
  | zero =>
    intro k i h hk
    obtain ⟨k, rfl⟩ : ∃ m, k = m + 1 := ⟨k - 1, by omega⟩
    simp only [tidemarkref1_Same.l0]
    rw [if_neg (by omega)]
  | succ d ih =>
    intro k i h hk
    obtain ⟨k, rfl⟩ : ∃ m, k = m + 1 := ⟨k - 1, by omega⟩
    simp only [tidemarkref1_Same.l0]
    rw [if_pos (by omega), if_pos (by omega), if_pos (by omega), up (n := xs.length) (by omega) (by omega), if_neg (by simp)]
    exact ih k (i + 1) (by omega) (by omega)
theorem same_is (xs : List S25) (hn : xs.length ≤ 8796093021952) {k : Nat} (hk : xs.length < k) : tidemarkref1_Same.f k xs xs = some true := by
  unfold tidemarkref1_Same.f
  rw [if_pos rfl]
  exact same_loop xs hn xs.length k 0 (by omega) hk
theorem spared_loop (l r : List S25) (hr : Room l r) (hn : l.length ≤ 8796093021952) (d : Nat) : ∀ (k i : Nat), l.length ≤ i → i + d = r.length → d + l.length + 1 < k → tidemarklaw1_spared.l0 k r l i = some true := by
  induction d with
  | zero =>
    intro k i hi h hk
    obtain ⟨k, rfl⟩ : ∃ m, k = m + 1 := ⟨k - 1, by omega⟩
    simp only [tidemarklaw1_spared.l0]
    rw [if_neg (by omega), if_pos (by omega), if_pos (by have := hr.1; omega), Int.toNat_natCast, hr.take_, same_is l hn (by omega)]
    rfl
  | succ d ih =>
    intro k i hi h hk
    obtain ⟨k, rfl⟩ : ∃ m, k = m + 1 := ⟨k - 1, by omega⟩
    have hl := hr.1
    have hm := hr.2.2 i hi (by omega)
    rw [List.getElem?_eq_getElem (by omega)] at hm
    have hm' := Option.some.inj hm
    simp only [tidemarklaw1_spared.l0]
    rw [if_pos (by omega), if_pos (by omega), up (n := r.length) (by omega) (by omega), rd_at r i (by omega), hm', if_neg (by simp [mark])]
    exact ih k (i + 1) (by omega) (by omega) (by omega)
theorem spared_is {l r : List S25} (hr : Room l r) (hn : l.length ≤ 8796093021952) {k : Nat} (hk : 3 * l.length + 3 < k) : tidemarklaw1_spared.f k r l = some true := by
  unfold tidemarklaw1_spared.f
  have := hr.1
  exact spared_loop l r hr hn (r.length - l.length) k l.length (by omega) (by omega) (by omega)
end Go.Proofs.Ytljkipkcabjcaaa.PStampMaxes
