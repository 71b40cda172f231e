/-
  What the law's question whether lists lie apart keeps, step by step.
-/
import Derived.Test.YtljkipkcabjcaaaSign
import Derived.Lib.Hide
namespace Go.Proofs.Ytljkipkcabjcaaa.PStampSorts
set_option linter.unusedSimpArgs false
set_option linter.unusedVariables false
open Go.RowKit Go.Proofs.YtljkipkcabjcaaaW.PrintWords Go.Proofs.YtljkipkcabjcaaaW.PrintLast Go.Proofs.YtljkipkcabjcaaaW.PrintMore
attribute [local go_sem high] eqA25
/-- Nothing has turned but the blocks of these lists. -/
structure Fr (w w' : World) (vs : List Value) : Prop where
  os : w'.os = w.os
  tape : w'.tape = w.tape
  output : w'.output = w.output
  size : w.heap.size ≤ w'.heap.size
  block : ∀ k, k < w.heap.size → (∀ v, v ∈ vs → v.ownBlock ≠ some k) → w'.heap[k]? = w.heap[k]?
theorem Fr.refl (w : World) (vs : List Value) : Fr w w vs := ⟨rfl, rfl, rfl, Nat.le_refl _, fun _ _ _ => rfl⟩
theorem Fr.step {w w1 w2 : World} {vs : List Value} (h : Fr w w1 vs) {row : Option Nat} (hg : w1.grownBy w2 row) (hr : ∀ k, row = some k → (∃ v, v ∈ vs ∧ v.ownBlock = some k) ∨ w.heap.size ≤ k) : Fr w w2 vs :=
  ⟨hg.os.trans h.os, hg.tape.trans h.tape, hg.output.trans h.output, Nat.le_trans h.size hg.size, fun k hk hv => (hg.block k (Nat.lt_of_lt_of_le hk h.size) (fun e => by
    rcases hr k e.symm with ⟨v, hm, hb⟩ | hle
    · exact hv v hm hb
    · omega)).trans (h.block k hk hv)⟩
theorem Fr.below {w w1 w2 : World} {vs : List Value} (h : Fr w w1 vs) (hb : Below w1.heap.size w1 w2) : Fr w w2 vs := h.step (row := none) (grown_of_below hb none) (fun k hk => by cases hk)
/-- No two share a block. -/
def Apart (vs : List Value) : Prop := ∀ (s t : Nat) (u v : Value), vs[s]? = some u → vs[t]? = some v → s ≠ t → ∀ k, u.ownBlock = some k → v.ownBlock ≠ some k
/-- The first writing: lists before the i'th are full of marks, the i'th up to j. -/
structure P1 (vs : List Value) (xss : List (List S25)) (w : World) (i j : Nat) (wr : World) : Prop where
  fr : Fr w wr vs
  own : ∀ (t : Nat) (v : Value) (xs : List S25), vs[t]? = some v → xss[t]? = some xs → ∃ y, Own wr v y ∧ y.length = xs.length ∧ ∀ q : Nat, q < xs.length → (t < i ∨ (t = i ∧ q < j)) → y[q]? = some (sg t q)
theorem P1.below {vs : List Value} {xss : List (List S25)} {w w1 w2 : World} {i j : Nat} (h : P1 vs xss w i j w1) (hb : Below w1.heap.size w1 w2) : P1 vs xss w i j w2 :=
  ⟨h.fr.below hb, fun t v xs h1 h2 => by
    obtain ⟨y, ho, hy⟩ := h.own t v xs h1 h2
    exact ⟨y, ho.below hb, hy⟩⟩
theorem P1.set {vs : List Value} {xss : List (List S25)} {w w1 w2 : World} {i j b : Nat} (h : P1 vs xss w i j w1) (hdis : Apart vs) {v : Value} {xs y : List S25} (hv : vs[i]? = some v) (hx : xss[i]? = some xs) (hb : v.ownBlock = some b)
    (hy : y.length = xs.length) (hm : ∀ q : Nat, q < xs.length → (i < i ∨ (i = i ∧ q < j)) → y[q]? = some (sg i q)) (hset : Own w2 v (y.set j (sg i j))) (hj : j < xs.length) (hg : w1.grownBy w2 (some b)) : P1 vs xss w i (j + 1) w2 := by
  refine ⟨h.fr.step hg (fun k hk => .inl ⟨v, List.mem_of_getElem? hv, hb.trans hk⟩), fun t u us h1 h2 => ?_⟩
  by_cases ht : t = i
  · subst ht
    rw [hv] at h1
    rw [hx] at h2
    cases h1
    cases h2
    refine ⟨_, hset, by rw [List.length_set, hy], fun q hq1 hq2 => ?_⟩
    rw [List.getElem?_set]
    by_cases hqj : j = q
    · subst hqj
      rw [if_pos rfl, if_pos (by omega)]
    · rw [if_neg hqj]
      exact hm q hq1 (by omega)
  · obtain ⟨y, ho, hl, hq⟩ := h.own t u us h1 h2
    refine ⟨y, ho.grown hg (fun k hk he => ?_), hl, fun q hq1 hq2 => hq q hq1 (by omega)⟩
    exact hdis t i u v h1 hv ht k hk (hb.trans he.symm)
theorem P1.next {vs : List Value} {xss : List (List S25)} {w w1 : World} {i j : Nat} {v : Value} {xs : List S25} (h : P1 vs xss w i j w1) (hx : xss[i]? = some xs) (hj : xs.length ≤ j) : P1 vs xss w (i + 1) 0 w1 := by
  refine ⟨h.fr, fun t u us h1 h2 => ?_⟩
  obtain ⟨y, ho, hl, hq⟩ := h.own t u us h1 h2
  refine ⟨y, ho, hl, fun q hq1 hq2 => hq q hq1 ?_⟩
  by_cases ht : t = i
  · subst ht
    rw [hx] at h2
    cases h2
    omega
  · omega
/-- The marks of list t. -/
def marks (t n : Nat) : List S25 := (List.range n).map fun q : Nat => sg t (q : Int)
theorem marks_length (t n : Nat) : (marks t n).length = n := by simp [marks]
theorem marks_get (t n q : Nat) (h : q < n) : (marks t n)[q]? = some (sg t q) := by simp [marks, h]
theorem marks_snoc (t n : Nat) : marks t (n + 1) = marks t n ++ [sg t n] := by simp [marks, List.range_succ]
theorem marks_take (t n m : Nat) (h : n ≤ m) : (marks t m).take n = marks t n := by
  refine List.ext_getElem? fun q => ?_
  rw [List.getElem?_take]
  by_cases hq : q < n
  · rw [if_pos hq, marks_get t m q (by omega), marks_get t n q hq]
  · rw [if_neg hq, List.getElem?_eq_none (by rw [marks_length]; omega)]
theorem marks_of {t n : Nat} {y : List S25} (hl : y.length = n) (h : ∀ q : Nat, q < n → y[q]? = some (sg t q)) : y = marks t n := by
  refine List.ext_getElem? fun q => ?_
  by_cases hq : q < n
  · rw [h q hq, marks_get t n q hq]
  · rw [List.getElem?_eq_none (by omega), List.getElem?_eq_none (by rw [marks_length]; omega)]
theorem rd_marks (t n q : Nat) (h : q < n) : rd_T25 (marks t n) (q : Int) = sg t q := by simp [rd_T25, marks_get t n q h]
theorem C_keep {w w1 : World} {A : Option Addr} {n : Nat} {xs : List S25} (h : Kd.C k25 w A n xs) (hk : ∀ ad, A = some ad → w1.heap[ad.block]? = w.heap[ad.block]?) : Kd.C k25 w1 A n xs :=
  ⟨h.1, h.2.1, fun hn => by
    obtain ⟨ad, e, hc⟩ := h.2.2 hn
    refine ⟨ad, e, fun j p hj => ?_⟩
    obtain ⟨c, hs, hr, hcell⟩ := hc j p hj
    refine ⟨c, hs, ?_, fun i u hu => (World.cell?_of_block (by rw [add_block]; exact hk ad e)).trans (hcell i u hu)⟩
    rw [k25_open hr]
    exact k25_mk _ _⟩
theorem C_take {w : World} {A : Option Addr} {n m : Nat} {xs : List S25} (h : Kd.C k25 w A m xs) (hn : n ≤ m) : Kd.C k25 w A n (xs.take n) :=
  ⟨by rw [List.length_take, h.1]; omega, by have := h.2.1; omega, fun h0 => by
    obtain ⟨ad, e, hc⟩ := h.2.2 (by omega)
    refine ⟨ad, e, fun j p hj => hc j p ?_⟩
    rw [List.getElem?_take] at hj
    split at hj
    · exact hj
    · cases hj⟩
theorem below_none {w w' : World} (hg : w.grownBy w' none) : Below w.heap.size w w' := ⟨hg.os, hg.tape, hg.output, hg.size, fun k hk => hg.block k hk (by simp)⟩
/-- A list's head as a value. -/
abbrev Hd := Option Addr × Nat × Nat
def hv (h : Hd) : Value := .slice h.1 h.2.1 h.2.2
def hk : Kd Hd := Kd.scalar hv (fun _ => rfl)
/-- The lengthening: i lists are lengthened; those from r on are still as they were. -/
structure P2 (vs : List Value) (xss : List (List S25)) (w : World) (i r : Nat) (hs : List Hd) (wr : World) : Prop where
  fr : Fr w wr vs
  rd : ∀ (t : Nat) (xs : List S25) (A : Option Addr) (c : Nat), vs[t]? = some (.slice A xs.length c) → xss[t]? = some xs → Kd.C k25 wr A xs.length (marks t xs.length)
  len : hs.length = i
  own : ∀ (t : Nat) (h : Hd) (xs : List S25), hs[t]? = some h → xss[t]? = some xs → Own wr (hv h) (marks t (xs.length + 70))
  blk : ∀ (t : Nat) (h : Hd) (v : Value), hs[t]? = some h → vs[t]? = some v → (hv h).ownBlock = v.ownBlock ∨ ∃ b, (hv h).ownBlock = some b ∧ w.heap.size ≤ b
  dis : ∀ (s t : Nat) (h h' : Hd), hs[s]? = some h → hs[t]? = some h' → s ≠ t → ∀ k, (hv h).ownBlock = some k → (hv h').ownBlock ≠ some k
  rest : ∀ (t : Nat) (v : Value) (xs : List S25), r ≤ t → vs[t]? = some v → xss[t]? = some xs → Own wr v (marks t xs.length)
/-- The i'th list, j marks on. -/
structure Gs (vs : List Value) (w : World) (i n j : Nat) (hs : List Hd) (v gv : Value) (wr : World) : Prop where
  own : Own wr gv (marks i (n + j))
  blk : gv.ownBlock = v.ownBlock ∨ ∃ b, gv.ownBlock = some b ∧ w.heap.size ≤ b
  dis : ∀ (t : Nat) (h : Hd), hs[t]? = some h → ∀ k, gv.ownBlock = some k → (hv h).ownBlock ≠ some k
section
variable {vs : List Value} {xss : List (List S25)} {w w1 w2 : World} {i r j n : Nat} {hs : List Hd} {v gv v1 : Value}
theorem P2.below (h : P2 vs xss w i r hs w1) (hb : Below w1.heap.size w1 w2) : P2 vs xss w i r hs w2 :=
  ⟨h.fr.below hb, fun t xs A c h1 h2 => Kd.C_below (h.rd t xs A c h1 h2) hb, h.len, fun t u xs h1 h2 => (h.own t u xs h1 h2).below hb, h.blk, h.dis, fun t u xs h0 h1 h2 => (h.rest t u xs h0 h1 h2).below hb⟩
theorem Gs.below (h : Gs vs w i n j hs v gv w1) (hb : Below w1.heap.size w1 w2) : Gs vs w i n j hs v gv w2 := ⟨h.own.below hb, h.blk, h.dis⟩
theorem P2.start (h : P1 vs xss w vs.length 0 w1) : P2 vs xss w 0 0 [] w1 := by
  have hy : ∀ (t : Nat) (v : Value) (xs : List S25), vs[t]? = some v → xss[t]? = some xs → Own w1 v (marks t xs.length) := fun t v xs h1 h2 => by
    obtain ⟨y, ho, hl, hq⟩ := h.own t v xs h1 h2
    have ht : t < vs.length := (List.getElem?_eq_some_iff.1 h1).1
    rw [← marks_of hl (fun q hq1 => hq q hq1 (.inl ht))]
    exact ho
  refine ⟨h.fr, fun t xs A c h1 h2 => ?_, rfl, fun t h _ h1 => by simp at h1, fun t h _ h1 => by simp at h1, fun s t h _ h1 => by simp at h1, fun t v xs _ h1 h2 => hy t v xs h1 h2⟩
  obtain ⟨A', c', he, _, hC⟩ := (hy t _ xs h1 h2).reads
  rw [marks_length] at hC
  injection he with he
  rw [he]
  exact hC
theorem P2.less (h : P2 vs xss w i r hs w1) {r' : Nat} (hr : r ≤ r') : P2 vs xss w i r' hs w1 := ⟨h.fr, h.rd, h.len, h.own, h.blk, h.dis, fun t v xs h0 h1 h2 => h.rest t v xs (by omega) h1 h2⟩
theorem Gs.start (h : P2 vs xss w i i hs w1) (hw : ∀ (t : Nat) (v : Value) (xs : List S25), vs[t]? = some v → xss[t]? = some xs → Own w v xs) (hdis : Apart vs) {xs : List S25} (hvi : vs[i]? = some v) (hxi : xss[i]? = some xs) : Gs vs w i xs.length 0 hs v v w1 := by
  refine ⟨h.rest i v xs (Nat.le_refl _) hvi hxi, .inl rfl, fun t u h1 k hk he => ?_⟩
  have ht : t < i := by have := (List.getElem?_eq_some_iff.1 h1).1; have := h.len; omega
  obtain ⟨v', h2⟩ : ∃ v', vs[t]? = some v' := ⟨_, List.getElem?_eq_getElem (by have := (List.getElem?_eq_some_iff.1 hvi).1; omega)⟩
  rcases h.blk t u v' h1 h2 with e | ⟨b, e, hb⟩
  · exact hdis t i v' v h2 hvi (by omega) k (e ▸ he) hk
  · have := (hw i v xs hvi hxi).lt hk
    rw [he] at e
    injection e with e
    omega
/-- A mark is put behind the i'th list. -/
theorem P2.app (h : P2 vs xss w i (i + 1) hs w1) (hg : Gs vs w i n j hs v gv w1) (hw : ∀ (t : Nat) (v : Value) (xs : List S25), vs[t]? = some v → xss[t]? = some xs → Own w v xs) (hdis : Apart vs) {xs : List S25} (hvi : vs[i]? = some v) (hxi : xss[i]? = some xs) (hn : xs.length = n)
    (ho : Own w2 v1 (marks i (n + j) ++ [sg i ((n + j : Nat) : Int)])) (hc : (v1.ownBlock = gv.ownBlock ∧ w1.grownBy w2 gv.ownBlock) ∨ ∃ b, v1.ownBlock = some b ∧ w1.heap.size ≤ b ∧ w1.grownBy w2 none) :
    P2 vs xss w i (i + 1) hs w2 ∧ Gs vs w i n (j + 1) hs v v1 w2 := by
  have hilt : i < vs.length := (List.getElem?_eq_some_iff.1 hvi).1
  have ho' : Own w2 v1 (marks i (n + (j + 1))) := by rw [← Nat.add_assoc, marks_snoc]; exact ho
  -- the block that may turn is none of another list
  have far : ∀ (t : Nat) (u : Value), vs[t]? = some u → t < xss.length → t ≠ i → ∀ k, u.ownBlock = some k → gv.ownBlock ≠ some k := fun t u h1 htx ht k hk he => by
    obtain ⟨us, h2⟩ : ∃ us, xss[t]? = some us := ⟨_, List.getElem?_eq_getElem htx⟩
    rcases hg.blk with e | ⟨b, e, hb⟩
    · exact hdis t i u v h1 hvi ht k hk (e ▸ he)
    · have := (hw t u us h1 h2).lt hk
      rw [he] at e
      injection e with e
      omega
  rcases hc with ⟨e1, hgr⟩ | ⟨b, e1, hb, hgr⟩
  · refine ⟨⟨h.fr.step hgr (fun k hk => ?_), fun t us A c h1 h2 => ?_, h.len, fun t u us h1 h2 => (h.own t u us h1 h2).grown hgr (fun k hk he => hg.dis t u h1 k he.symm hk), h.blk, h.dis, fun t u us h0 h1 h2 => (h.rest t u us h0 h1 h2).grown hgr (fun k hk he => far t u h1 (List.getElem?_eq_some_iff.1 h2).1 (by omega) k hk he.symm)⟩,
      ⟨ho', by rw [e1]; exact hg.blk, fun t u h1 k hk => hg.dis t u h1 k (e1 ▸ hk)⟩⟩
    · rcases hg.blk with e | ⟨b, e, hb⟩
      · exact .inl ⟨v, List.mem_of_getElem? hvi, e ▸ hk⟩
      · rw [hk] at e
        injection e with e
        exact .inr (by omega)
    · by_cases ht : t = i
      · subst ht
        rw [hvi] at h1
        cases h1
        rw [hxi] at h2
        cases h2
        by_cases he : ∃ ad, A = some ad ∧ gv.ownBlock = some ad.block
        · obtain ⟨ad, rfl, he⟩ := he
          by_cases h0 : xs.length = 0
          · rw [h0]
            exact ⟨marks_length _ _, by omega, fun h => absurd h (by omega)⟩
          · obtain ⟨b, cap, ev, _⟩ := Kd.R_form (hw t _ xs hvi hxi) (by omega)
            injection ev with ev
            injection ev with ev
            subst ev
            obtain ⟨b', cap', ev', _⟩ := Kd.R_form ho' (by rw [marks_length]; omega)
            have eb : b' = b := by
              rw [ev', he] at e1
              simpa [Value.ownBlock] using e1
            subst eb
            obtain ⟨A', c', ev2, _, hC⟩ := ho'.reads
            rw [ev'] at ev2
            injection ev2 with ev2
            subst ev2
            rw [marks_length] at hC
            have := C_take (n := xs.length) hC (by omega)
            rwa [marks_take _ _ _ (by omega)] at this
        · refine C_keep (h.rd t xs A c hvi hxi) (fun ad ea => hgr.block _ ?_ (fun e => he ⟨ad, ea, e.symm⟩))
          have := (hw t _ xs hvi hxi).lt (k := ad.block) (by rw [ea]; rfl)
          exact Nat.lt_of_lt_of_le this h.fr.size
      · refine C_keep (h.rd t us A c h1 h2) (fun ad ea => hgr.block _ ?_ (fun e => far t _ h1 (List.getElem?_eq_some_iff.1 h2).1 ht ad.block (by rw [ea]; rfl) e.symm))
        have := (hw t _ us h1 h2).lt (k := ad.block) (by rw [ea]; rfl)
        exact Nat.lt_of_lt_of_le this h.fr.size
  · refine ⟨h.below (below_none hgr), ⟨ho', .inr ⟨b, e1, Nat.le_trans h.fr.size hb⟩, fun t u h1 k hk he => ?_⟩⟩
    obtain ⟨us, h2⟩ : ∃ us, xss[t]? = some us := ⟨_, List.getElem?_eq_getElem (by
      have := (List.getElem?_eq_some_iff.1 h1).1
      have h3 := h.len
      have := (List.getElem?_eq_some_iff.1 hxi).1
      omega)⟩
    have := (h.own t u us h1 h2).lt he
    rw [hk] at e1
    injection e1 with e1
    omega
/-- The i'th list is done; its head is kept. -/
theorem P2.push (h : P2 vs xss w i (i + 1) hs w1) {p : Hd} (hg : Gs vs w i n 70 hs v (hv p) w1) (hw : ∀ (t : Nat) (v : Value) (xs : List S25), vs[t]? = some v → xss[t]? = some xs → Own w v xs) {xs : List S25} (hvi : vs[i]? = some v) (hxi : xss[i]? = some xs) (hn : xs.length = n)
    {vl : Value} (hl : Kd.R hk 41 w1 w.heap.size (fun _ => True) vl hs) (hgr : w1.grownBy w2 vl.ownBlock) : P2 vs xss w (i + 1) (i + 1) (hs ++ [p]) w2 := by
  have own2 : ∀ {u : Value} {us : List S25}, Own w1 u us → Own w2 u us := fun ho => Kd.R_over ho hl (by intro q hq; simp [k25, Kd.iso, Kd.pair, Kd.int, Kd.scalar] at hq; subst hq; decide) hgr
  have get : ∀ (t : Nat) (u : Hd), (hs ++ [p])[t]? = some u → hs[t]? = some u ∨ (t = i ∧ u = p) := fun t u ht => by
    rw [List.getElem?_append] at ht
    split at ht
    · exact .inl ht
    · rename_i hlt
      have h3 := h.len
      have h4 : t - hs.length = 0 := by
        have := (List.getElem?_eq_some_iff.1 ht).1
        simp at this
        omega
      rw [h4] at ht
      injection ht with ht
      exact .inr ⟨by omega, ht.symm⟩
  refine ⟨h.fr.step hgr (fun k hk => .inr (Kd.R_base hl k hk)), fun t us A c h1 h2 => C_keep (h.rd t us A c h1 h2) (fun ad ea => ?_), by rw [List.length_append, h.len]; rfl, fun t u us h1 h2 => ?_, fun t u u' h1 h2 => ?_, fun s t u u' h1 h2 hst k hk => ?_, fun t u us h0 h1 h2 => own2 (h.rest t u us h0 h1 h2)⟩
  · have hlt := (hw t _ us h1 h2).lt (k := ad.block) (by rw [ea]; rfl)
    refine hgr.block _ (Nat.lt_of_lt_of_le hlt h.fr.size) (fun e => ?_)
    have := Kd.R_base hl _ e.symm
    omega
  · rcases get t u h1 with h1 | ⟨rfl, rfl⟩
    · exact own2 (h.own t u us h1 h2)
    · rw [hxi] at h2
      cases h2
      rw [hn]
      exact own2 hg.own
  · rcases get t u h1 with h1 | ⟨rfl, rfl⟩
    · exact h.blk t u u' h1 h2
    · rw [hvi] at h2
      cases h2
      exact hg.blk
  · rcases get s u h1 with g1 | ⟨e1, f1⟩
    · rcases get t u' h2 with g2 | ⟨e2, f2⟩
      · exact h.dis s t u u' g1 g2 hst k hk
      · subst f2
        exact fun he => hg.dis s u g1 k he hk
    · rcases get t u' h2 with g2 | ⟨e2, f2⟩
      · subst f1
        exact hg.dis t u' g2 k hk
      · exact absurd (e1.trans e2.symm) hst
end
/-- A store into a list of one's own. -/
theorem store25_run {P : Program} {a : Act} {o : Oper} {W : World} {p x : Operand} (ho : o.op = .store 25 p x) (hinfo : (P.info? 25).map (·.size) = some 3) {b j off : Nat} {n c : Nat} {y : List S25} (z : S25)
    (haddr : a.eval p = .pointer (some ⟨b, off, none⟩)) (hx : a.eval x = .agg #[.int .u64 z.f0, .int .u32 z.f1, .int .u32 z.f2]) (HO : Own W (.slice (some ⟨b, 0, none⟩) n c) y) (hoff : off = j * 3) (hj : j < n) :
    ∃ w1, (execOp a.eval o).run P W = .ok .skip w1 ∧ Own w1 (.slice (some ⟨b, 0, none⟩) n c) (y.set j z) ∧ W.grownBy w1 (some b) := by
  subst hoff
  obtain ⟨cs, hcl, _, hcc, hfz⟩ := Kd.R_elem HO z25 (j : Int) (by omega) (by omega)
  obtain ⟨hR, hg⟩ := Kd.R_seg (okp := fun _ => False) HO (j : Int) (by omega) (by omega) (c := cs) (seg := [.int .u64 z.f0, .int .u32 z.f1, .int .u32 z.f2]) (j := 0) hcl hcc (by show 0 + 3 ≤ 3; omega) (x' := z)
    (by rw [List.take_zero, List.nil_append, List.drop_of_length_le (by rw [hcl]; exact Nat.le_refl 3), List.append_nil]; exact k25_mkM _ _ _ z) (fun _ h => h.elim)
  rw [Int.toNat_natCast, Nat.add_zero] at hR hg
  refine ⟨_, ?_, own_of hR, hg⟩
  obtain ⟨_, inner, hown, _⟩ := HO
  rcases hown.2 with ⟨hv, _⟩ | ⟨g', cap', cur, hv, hb, hh, hnc, hcm, hcs, _⟩
  · cases hv
  injection hv with ha _ hc
  injection ha with ha
  injection ha with hg'
  subst hg'; subst hc
  have hrun := run_store_run (P := P) (w := W) 25 (.agg #[.int .u64 z.f0, .int .u32 z.f1, .int .u32 z.f2]) [.int .u64 z.f0, .int .u32 z.f1, .int .u32 z.f2] (o := j * 3) hh rfl hinfo (by
    have : cur.size = c * 3 := hcs
    simp only [List.length_cons, List.length_nil]
    omega) (by simp [Value.oneCell'])
  unfold execOp
  simp only [ho, haddr, hx, Sem.run_bind, Sem.run_pure, Result.andThen_ok, hrun]
  rfl
theorem store25_step {P : Program} {ops : Array Oper} {Q : Exit → Act → World → Prop} {K : Act → World → Prop} {a : Act} {o : Oper} {W : World} {p x : Operand} (hw : Region.wanted o (yielded ops a.tmps) = true) (hN : o.dst = none) (ho : o.op = .store 25 p x) (hinfo : (P.info? 25).map (·.size) = some 3) {b j off : Nat} {n c : Nat} {y : List S25} (z : S25)
    (haddr : a.eval p = .pointer (some ⟨b, off, none⟩)) (hx : a.eval x = .agg #[.int .u64 z.f0, .int .u32 z.f1, .int .u32 z.f2]) (HO : Own W (.slice (some ⟨b, 0, none⟩) n c) y) (hoff : off = j * 3) (hj : j < n)
    (h : ∀ w1, Own w1 (.slice (some ⟨b, 0, none⟩) n c) (y.set j z) → W.grownBy w1 (some b) → K a w1) : if Region.wanted o (yielded ops a.tmps) = true then Oper.wp P o a W K Q else K (a.put none undef) W := by
  obtain ⟨w1, hrun, h1, h2⟩ := store25_run ho hinfo z haddr hx HO hoff hj
  exact skip_ hw hN hrun (h w1 h1 h2)
end Go.Proofs.Ytljkipkcabjcaaa.PStampSorts
