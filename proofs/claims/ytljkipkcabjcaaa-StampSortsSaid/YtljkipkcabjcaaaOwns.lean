/-
  The law's own list functions over plain lists: cut, roomy, Same, spared. And the lists that lie in blocks of their own.
-/
import Derived.Test.YtljkipkcabjcaaaApartLaw
namespace Go.Proofs.Ytljkipkcabjcaaa.PStampSorts
set_option linter.unusedSimpArgs false
set_option linter.unusedVariables false
open Go.RowKit Go.Proofs.YtljkipkcabjcaaaW.PrintWords
theorem cut_loop (xs : List S25) (hn : xs.length ≤ 8796093021952) (d : Nat) : ∀ (k i : Nat), i + d = xs.length → d < k → tidemarklaw1_cut.l0 k xs (xs.take i) i = some xs := by
  induction d with
  | zero =>
    intro k i h hk
    obtain ⟨k, rfl⟩ : ∃ m, k = m + 1 := ⟨k - 1, by omega⟩
    simp only [tidemarklaw1_cut.l0]
    rw [if_neg (by omega), List.take_of_length_le (by omega)]
  | succ d ih =>
    intro k i h hk
    obtain ⟨k, rfl⟩ : ∃ m, k = m + 1 := ⟨k - 1, by omega⟩
    simp only [tidemarklaw1_cut.l0]
    rw [if_pos (by omega), if_pos (by omega), if_pos (by rw [List.length_take]; omega), up (n := xs.length) (by omega) (by omega), rd_at xs i (by omega)]
    rw [show xs.take i ++ [(⟨(xs[i]'(by omega)).f0, (xs[i]'(by omega)).f1, (xs[i]'(by omega)).f2⟩ : S25)] = xs.take (i + 1) from by rw [List.take_succ_eq_append_getElem (by omega)]]
    exact ih k (i + 1) (by omega) (by omega)
theorem cut_is (xs : List S25) (hn : xs.length ≤ 8796093021952) {k : Nat} (hk : xs.length < k) : tidemarklaw1_cut.f k xs = some xs := by
  unfold tidemarklaw1_cut.f
  exact cut_loop xs hn xs.length k 0 (by omega) hk
/-- The mark at a place. -/
def mark (i : Nat) : S25 := ⟨9, (i : Int) % 4294967296, 9⟩
/-- The list with marks behind it. -/
def Room (l r : List S25) : Prop := r.length = 2 * l.length + 1 ∧ (∀ j, j < l.length → r[j]? = l[j]?) ∧ ∀ j, l.length ≤ j → j < r.length → r[j]? = some (mark j)
theorem room1 (l : List S25) (hn : l.length ≤ 8796093021952) (d : Nat) : ∀ (k i : Nat) (x : List S25), i + d = l.length → d < k → x.length = 2 * l.length + 1 → (∀ j, j < i → x[j]? = l[j]?) → (∀ j, i ≤ j → j < x.length → x[j]? = some (mark j)) →
    ∃ r, tidemarklaw1_roomy.l1 k l x i = some r ∧ Room l r := by
  induction d with
  | zero =>
    intro k i x h hk hx h1 h2
    obtain ⟨k, rfl⟩ : ∃ m, k = m + 1 := ⟨k - 1, by omega⟩
    simp only [tidemarklaw1_roomy.l1]
    rw [if_neg (by omega)]
    exact ⟨x, rfl, hx, fun j hj => h1 j (by omega), fun j hj hj2 => h2 j (by omega) hj2⟩
  | succ d ih =>
    intro k i x h hk hx h1 h2
    obtain ⟨k, rfl⟩ : ∃ m, k = m + 1 := ⟨k - 1, by omega⟩
    simp only [tidemarklaw1_roomy.l1]
    rw [if_pos (by omega), if_pos (by omega), if_pos (by omega), up (n := l.length) (by omega) (by omega), rd_at l i (by omega), S25_eta, Int.toNat_natCast]
    refine ih k (i + 1) _ (by omega) (by omega) (by rw [List.length_set]; exact hx) (fun j hj => ?_) (fun j hj hj2 => ?_)
    · by_cases e : i = j
      · subst e
        rw [List.getElem?_set_self (by omega), List.getElem?_eq_getElem (by omega)]
      · rw [List.getElem?_set_ne e]
        exact h1 j (by omega)
    · rw [List.length_set] at hj2
      rw [List.getElem?_set_ne (by omega)]
      exact h2 j (by omega) hj2
theorem room0 (l : List S25) (hn : l.length ≤ 8796093021952) (d : Nat) : ∀ (k i : Nat) (x : List S25), i + d = 2 * l.length + 1 → d + l.length + 1 < k → x.length = 2 * l.length + 1 → (∀ j, j < i → x[j]? = some (mark j)) →
    ∃ r, tidemarklaw1_roomy.l0 k l x i = some r ∧ Room l r := by
  induction d with
  | zero =>
    intro k i x h hk hx h1
    obtain ⟨k, rfl⟩ : ∃ m, k = m + 1 := ⟨k - 1, by omega⟩
    simp only [tidemarklaw1_roomy.l0]
    rw [if_neg (by omega)]
    exact room1 l hn l.length k 0 x (by omega) (by omega) hx (fun j hj => absurd hj (by omega)) (fun j _ hj => h1 j (by omega))
  | succ d ih =>
    intro k i x h hk hx h1
    obtain ⟨k, rfl⟩ : ∃ m, k = m + 1 := ⟨k - 1, by omega⟩
    simp only [tidemarklaw1_roomy.l0]
    rw [if_pos (by omega), if_pos (by omega), up (n := 2 * l.length + 1) (by omega) (by omega), Int.toNat_natCast]
    refine ih k (i + 1) _ (by omega) (by omega) (by rw [List.length_set]; exact hx) (fun j hj => ?_)
    by_cases e : i = j
    · subst e
      rw [List.getElem?_set_self (by omega)]
      rfl
    · rw [List.getElem?_set_ne e]
      exact h1 j (by omega)
theorem roomy_is (l : List S25) (hn : l.length ≤ 8796093021952) {k : Nat} (hk : 3 * l.length + 2 < k) : ∃ r, tidemarklaw1_roomy.f k l = some r ∧ Room l r := by
  unfold tidemarklaw1_roomy.f
  have e : wrap64 (wrap64 (2 * (l.length : Int)) + 1) = ((2 * l.length + 1 : Nat) : Int) := by unfold wrap64; omega
  rw [e, if_pos (by omega), if_pos (by omega), Int.toNat_natCast]
  exact room0 l hn (2 * l.length + 1) k 0 _ (by omega) (by omega) (by simp) (fun j hj => absurd hj (by omega))
theorem Room.take_ {l r : List S25} (h : Room l r) : r.take l.length = l := by
  apply List.ext_getElem?
  intro j
  by_cases hj : j < l.length
  · rw [List.getElem?_take_of_lt hj, h.2.1 j hj]
  · rw [List.getElem?_eq_none (by rw [List.length_take]; omega), List.getElem?_eq_none (by omega)]
theorem same_loop (xs : List S25) (hn : xs.length ≤ 8796093021952) (d : Nat) : ∀ (k i : Nat), i + d = xs.length → d < k → tidemarkref1_Same.l0 k xs xs i = some true := by
  induction d with
  | zero =>
    intro k i h hk
    obtain ⟨k, rfl⟩ : ∃ m, k = m + 1 := ⟨k - 1, by omega⟩
    simp only [tidemarkref1_Same.l0]
    rw [if_neg (by omega)]
  | succ d ih =>
    intro k i h hk
    obtain ⟨k, rfl⟩ : ∃ m, k = m + 1 := ⟨k - 1, by omega⟩
    simp only [tidemarkref1_Same.l0]
    rw [if_pos (by omega), if_pos (by omega), if_pos (by omega), up (n := xs.length) (by omega) (by omega), if_neg (by simp)]
    exact ih k (i + 1) (by omega) (by omega)
theorem same_is (xs : List S25) (hn : xs.length ≤ 8796093021952) {k : Nat} (hk : xs.length < k) : tidemarkref1_Same.f k xs xs = some true := by
  unfold tidemarkref1_Same.f
  rw [if_pos rfl]
  exact same_loop xs hn xs.length k 0 (by omega) hk
theorem spared_loop (l r : List S25) (hr : Room l r) (hn : l.length ≤ 8796093021952) (d : Nat) : ∀ (k i : Nat), l.length ≤ i → i + d = r.length → d + l.length + 1 < k → tidemarklaw1_spared.l0 k r l i = some true := by
  induction d with
  | zero =>
    intro k i hi h hk
    obtain ⟨k, rfl⟩ : ∃ m, k = m + 1 := ⟨k - 1, by omega⟩
    simp only [tidemarklaw1_spared.l0]
    rw [if_neg (by omega), if_pos (by omega), if_pos (by have := hr.1; omega), Int.toNat_natCast, hr.take_, same_is l hn (by omega)]
    rfl
  | succ d ih =>
    intro k i hi h hk
    obtain ⟨k, rfl⟩ : ∃ m, k = m + 1 := ⟨k - 1, by omega⟩
    have hl := hr.1
    have hm := hr.2.2 i hi (by omega)
    rw [List.getElem?_eq_getElem (by omega)] at hm
    have hm' := Option.some.inj hm
    simp only [tidemarklaw1_spared.l0]
    rw [if_pos (by omega), if_pos (by omega), up (n := r.length) (by omega) (by omega), rd_at r i (by omega), hm', if_neg (by simp [mark])]
    exact ih k (i + 1) (by omega) (by omega) (by omega)
theorem spared_is {l r : List S25} (hr : Room l r) (hn : l.length ≤ 8796093021952) {k : Nat} (hk : 3 * l.length + 3 < k) : tidemarklaw1_spared.f k r l = some true := by
  unfold tidemarklaw1_spared.f
  have := hr.1
  exact spared_loop l r hr hn (r.length - l.length) k l.length (by omega) (by omega) (by omega)
/-- Lists in blocks of their own, none of them shared, all younger than w0. -/
structure Owns (w0 W : World) (ps : List (Value × List S25)) : Prop where
  bel : Below w0.heap.size w0 W
  own : ∀ p, p ∈ ps → Own W p.1 p.2
  new : ∀ p, p ∈ ps → ∀ k, p.1.ownBlock = some k → w0.heap.size ≤ k
  dis : ps.Pairwise fun p q => ∀ k, p.1.ownBlock = some k → q.1.ownBlock ≠ some k
theorem Owns.start (w : World) : Owns w w [] := ⟨Below.refl _ _, fun p h => by simp at h, fun p h => by simp at h, List.Pairwise.nil⟩
theorem Owns.below {w0 W W' : World} {ps : List (Value × List S25)} (h : Owns w0 W ps) (hb : Below W.heap.size W W') : Owns w0 W' ps := ⟨below_step h.bel hb, fun p hp => (h.own p hp).below hb, h.new, h.dis⟩
theorem Owns.push {w0 W W' : World} {ps : List (Value × List S25)} (h : Owns w0 W ps) {v : Value} {xs : List S25} (ho : Own W' v xs) (hk : ∀ k, v.ownBlock = some k → W.heap.size ≤ k) (hb : Below W.heap.size W W') : Owns w0 W' ((v, xs) :: ps) := by
  refine ⟨below_step h.bel hb, fun p hp => ?_, fun p hp k e => ?_, List.pairwise_cons.2 ⟨fun p hp k e e' => ?_, h.dis⟩⟩
  · rcases List.mem_cons.1 hp with rfl | hp
    · exact ho
    · exact (h.own p hp).below hb
  · rcases List.mem_cons.1 hp with rfl | hp
    · exact Nat.le_trans h.bel.size (hk k e)
    · exact h.new p hp k e
  · have := (h.own p hp).lt e'
    have := hk k e
    omega
theorem Owns.drop {w0 W : World} {ps : List (Value × List S25)} {p : Value × List S25} (h : Owns w0 W (p :: ps)) : Owns w0 W ps := ⟨h.bel, fun q hq => h.own q (List.mem_cons_of_mem _ hq), fun q hq => h.new q (List.mem_cons_of_mem _ hq), (List.pairwise_cons.1 h.dis).2⟩
/-- The first few lists turn, and new blocks come. -/
theorem Owns.split {w0 W W' : World} {qs ps : List (Value × List S25)} (h : Owns w0 W (qs ++ ps)) {vs : List Value} (hv : ∀ v, v ∈ vs → ∀ k, v.ownBlock = some k → ∃ q, q ∈ qs ∧ q.1.ownBlock = some k) (hf : Fr W W' vs) : Owns w0 W' ps := by
  have hd := List.pairwise_append.1 h.dis
  refine ⟨⟨hf.os.trans h.bel.os, hf.tape.trans h.bel.tape, hf.output.trans h.bel.output, Nat.le_trans h.bel.size hf.size, fun k hk => ?_⟩, fun p hp => (h.own p (List.mem_append_right _ hp)).keep (fun k e => hf.block k ?_ (fun v hm e' => ?_)), fun p hp => h.new p (List.mem_append_right _ hp), hd.2.1⟩
  · refine (hf.block k (Nat.lt_of_lt_of_le hk h.bel.size) (fun v hm e => ?_)).trans (h.bel.block k hk)
    obtain ⟨q, hq, e2⟩ := hv v hm k e
    have := h.new q (List.mem_append_left _ hq) k e2
    omega
  · exact (h.own p (List.mem_append_right _ hp)).lt e
  · obtain ⟨q, hq, e2⟩ := hv v hm k e'
    exact hd.2.2 q hq p hp k e2 e
theorem Owns.perm {w0 W : World} {ps qs : List (Value × List S25)} (h : Owns w0 W ps) (hp : qs.Perm ps) : Owns w0 W qs :=
  ⟨h.bel, fun p hm => h.own p (hp.subset hm), fun p hm => h.new p (hp.subset hm), (hp.pairwise_iff (fun {x y} hxy k e e' => hxy k e' e)).2 h.dis⟩
/-- The second list is written over. -/
theorem Owns.turn {w0 W W' : World} {p : Value × List S25} {v : Value} {xs xs' : List S25} {ps : List (Value × List S25)} (h : Owns w0 W (p :: (v, xs) :: ps)) (ho : Own W' v xs') (hg : W.grownBy W' v.ownBlock) : Owns w0 W' (p :: (v, xs') :: ps) := by
  obtain ⟨d1, d2, d3⟩ := (List.pairwise_cons.1 h.dis).imp (fun x => x) (fun x => List.pairwise_cons.1 x)
  have keep : ∀ q, (q = p ∨ q ∈ ps) → Own W' q.1 q.2 := fun q hq => by
    have hm : q ∈ p :: (v, xs) :: ps := by rcases hq with rfl | hq <;> simp [*]
    refine (h.own q hm).grown hg (fun k e e' => ?_)
    rcases hq with rfl | hq
    · exact d1 (v, xs) (by simp) k e e'.symm
    · exact d2 q hq k e'.symm e
  have hv : ∀ k, v.ownBlock = some k → w0.heap.size ≤ k := fun k e => h.new (v, xs) (by simp) k e
  refine ⟨h.bel.grown hg h.bel.size hv, fun q hq => ?_, fun q hq => ?_, ?_⟩
  · rcases List.mem_cons.1 hq with rfl | hq
    · exact keep _ (.inl rfl)
    · rcases List.mem_cons.1 hq with rfl | hq
      · exact ho
      · exact keep _ (.inr hq)
  · rcases List.mem_cons.1 hq with rfl | hq
    · exact h.new _ (by simp)
    · rcases List.mem_cons.1 hq with rfl | hq
      · exact hv
      · exact h.new _ (by simp [hq])
  · refine List.pairwise_cons.2 ⟨fun q hq => ?_, List.pairwise_cons.2 ⟨fun q hq => d2 q hq, d3⟩⟩
    rcases List.mem_cons.1 hq with rfl | hq
    · exact d1 (v, xs) (by simp)
    · exact d1 q (by simp [hq])
/-- What the law's question for shared memory asks of the lists. -/
theorem Owns.asks {w0 W : World} {qs ps : List (Value × List S25)} (h : Owns w0 W (qs ++ ps)) :
    (∀ (t : Nat) (v : Value) (xs : List S25), (qs.map Prod.fst)[t]? = some v → (qs.map Prod.snd)[t]? = some xs → Own W v xs) ∧ Apart (qs.map Prod.fst) ∧ ∀ v, v ∈ qs.map Prod.fst → ∀ k, v.ownBlock = some k → k < W.heap.size ∧ ∃ q, q ∈ qs ∧ q.1.ownBlock = some k := by
  have hd := (List.pairwise_append.1 h.dis).1
  refine ⟨fun t v xs h1 h2 => ?_, fun a b u v h1 h2 hab k e e' => ?_, fun v hv k e => ?_⟩
  · rw [List.getElem?_map] at h1 h2
    obtain ⟨q, hq, rfl⟩ := Option.map_eq_some_iff.1 h1
    rw [hq] at h2
    simp only [Option.map_some, Option.some.injEq] at h2
    subst h2
    exact h.own q (List.mem_append_left _ (List.mem_of_getElem? hq))
  · rw [List.getElem?_map] at h1 h2
    obtain ⟨p, hp, rfl⟩ := Option.map_eq_some_iff.1 h1
    obtain ⟨q, hq, rfl⟩ := Option.map_eq_some_iff.1 h2
    obtain ⟨ha, rfl⟩ := List.getElem?_eq_some_iff.1 hp
    obtain ⟨hb, rfl⟩ := List.getElem?_eq_some_iff.1 hq
    rw [List.pairwise_iff_getElem] at hd
    rcases Nat.lt_or_gt_of_ne hab with hlt | hlt
    · exact hd a b ha hb hlt k e e'
    · exact hd b a hb ha hlt k e' e
  · obtain ⟨q, hq, rfl⟩ := List.mem_map.1 hv
    exact ⟨(h.own q (List.mem_append_left _ hq)).lt e, q, hq, e⟩
end Go.Proofs.Ytljkipkcabjcaaa.PStampSorts
