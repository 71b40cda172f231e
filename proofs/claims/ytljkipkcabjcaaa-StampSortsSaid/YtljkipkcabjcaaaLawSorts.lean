/-
  The walk of the law StampSorts: it returns true, for every list of stamps.
-/
import Derived.Test.YtljkipkcabjcaaaApart
import Derived.Test.YtljkipkcabjcaaaSort
import Derived.Test.YtljkipkcabjcaaaOwns
namespace Go.Proofs.Ytljkipkcabjcaaa.PStampSorts
set_option linter.unusedSimpArgs false
set_option linter.unusedVariables false
open Go.RowKit Go.Proofs.YtljkipkcabjcaaaW.PrintWords Go.Proofs.YtljkipkcabjcaaaW.PrintLast Go.Proofs.YtljkipkcabjcaaaW.PrintMore
attribute [local go_sem high] eqA25
/-- A contract of a function that hands back a list of its own. -/
def Gives (f : Nat) (l r : List S25) : Prop := ∀ (A : Option Addr) (c : Nat) (w : World), Kd.C k25 w A l.length l → l.length ≤ c → Calls Try.prog f #[.slice A l.length c] w fun e w' => ∃ v, e = .returned v ∧ Own w' v r ∧ (∀ k, v.ownBlock = some k → w.heap.size ≤ k) ∧ Below w.heap.size w w'
theorem gives_of {f : Nat} {l r : List S25} (h : ∀ (A : Option Addr) (c : Nat) (w : World), Kd.C k25 w A l.length l → l.length ≤ c → Calls Try.prog f #[.slice A l.length c] w fun e w' => ∃ v, e = .returned v ∧ Kd.R k25 25 w' w.heap.size (fun _ => True) v r ∧ Below w.heap.size w w') : Gives f l r :=
  fun A c w hC hc => (h A c w hC hc).mono fun e w' ⟨v, he, hR, hb⟩ => ⟨v, he, own_of hR, Kd.R_base hR, hb⟩
theorem gives_cut (l : List S25) (hn : l.length ≤ 8796093021952) : Gives 18 l l := gives_of fun A c w hC hc => tidemarklaw1_cut.calls _ A c l l w hC hc (cut_is l hn (k := l.length + 1) (by omega))
theorem gives_ref (l : List S25) (hn : l.length ≤ 8796093021952) : Gives 27 l (sortL [] l) := gives_of fun A c w hC hc => by
  obtain ⟨k, hk⟩ := refSort_is l hn
  exact tidemarkref1_Sort.calls k A c l _ w hC hc hk
theorem gives_sort (l : List S25) (hn : l.length ≤ 8796093021952) : Gives 28 l (sortL [] l) := fun A c w hC hc => sort_calls A c l w hC hc hn
/-- Same tells that two lists of the same stamps are the same. -/
def Sames (l : List S25) : Prop := ∀ (A : Option Addr) (c : Nat) (B : Option Addr) (d : Nat) (w : World), Kd.C k25 w A l.length l → l.length ≤ c → Kd.C k25 w B l.length l → l.length ≤ d → Calls Try.prog 29 #[.slice A l.length c, .slice B l.length d] w fun e w' => e = .returned (.bool true) ∧ Below w.heap.size w w'
theorem sames (l : List S25) (hn : l.length ≤ 8796093021952) : Sames l := fun A c B d w h1 h2 h3 h4 => (tidemarkref1_Same.calls _ A c l B d l true w h1 h2 h3 h4 (same_is l hn (k := l.length + 1) (by omega))).mono fun e w' ⟨he, hd⟩ => ⟨he, hd.below⟩
/-- spared tells that the room behind a list is as it was. -/
def Spares (r l : List S25) : Prop := ∀ (A : Option Addr) (c : Nat) (B : Option Addr) (d : Nat) (w : World), Kd.C k25 w A r.length r → r.length ≤ c → Kd.C k25 w B l.length l → l.length ≤ d → Calls Try.prog 22 #[.slice A r.length c, .slice B l.length d] w fun e w' => e = .returned (.bool true) ∧ Below w.heap.size w w'
theorem spares {l r : List S25} (hr : Room l r) (hn : l.length ≤ 8796093021952) : Spares r l := fun A c B d w h1 h2 h3 h4 => (tidemarklaw1_spared.calls _ A c r B d l true w h1 h2 h3 h4 (spared_is hr hn (k := 3 * l.length + 4) (by omega))).mono fun e w' ⟨he, hd⟩ => ⟨he, hd.below⟩
theorem sortL_length (l : List S25) : (sortL [] l).length = l.length := by
  have := (sortL_spec l [] List.Pairwise.nil).2.length_eq
  simpa using this
theorem Own.slice {w : World} {v : Value} {xs : List S25} (h : Own w v xs) : ∃ A c, v = .slice A xs.length c ∧ xs.length ≤ c := by
  obtain ⟨A, c, h1, h2, _⟩ := h.reads
  exact ⟨A, c, h1, h2⟩
theorem Own.c {w : World} {A : Option Addr} {n c : Nat} {xs : List S25} (h : Own w (.slice A n c) xs) : Kd.C k25 w A xs.length xs := (Kd.R_reads' h).2.2
theorem Owns.at {w0 w : World} {ps : List (Value × List S25)} (h : Owns w0 w ps) {A : Option Addr} {xs : List S25} (c : Nat) (hm : (Value.slice A xs.length c, xs) ∈ ps) : Kd.C k25 w A xs.length xs := (h.own _ hm).c
theorem C_three {w : World} {g : Nat} (h : w.heap[g]? = some (.cells #[.int .u64 3, .int .u32 0, .int .u32 0, .int .u64 2, .int .u32 0, .int .u32 0, .int .u64 1, .int .u32 0, .int .u32 0] 25 (0, 0))) : Kd.C k25 w (some ⟨g, 0, none⟩) 3 [(⟨3, 0, 0⟩ : S25), ⟨2, 0, 0⟩, ⟨1, 0, 0⟩] := by
  refine ⟨rfl, by omega, fun _ => ⟨_, rfl, fun j p hj => ?_⟩⟩
  have hk : k25.sz = 3 := rfl
  match j, hj with
  | 0, hj =>
    simp only [List.getElem?_cons_zero, Option.some.injEq] at hj
    subst hj
    refine ⟨[.int .u64 3, .int .u32 0, .int .u32 0], rfl, k25_mk _ _, fun i u hi => ?_⟩
    rw [add_plain, blk_cell h, hk]
    match i, hi with
    | 0, hi => simpa using hi
    | 1, hi => simpa using hi
    | 2, hi => simpa using hi
    | i + 3, hi => simp at hi
  | 1, hj =>
    simp only [List.getElem?_cons_succ, List.getElem?_cons_zero, Option.some.injEq] at hj
    subst hj
    refine ⟨[.int .u64 2, .int .u32 0, .int .u32 0], rfl, k25_mk _ _, fun i u hi => ?_⟩
    rw [add_plain, blk_cell h, hk]
    match i, hi with
    | 0, hi => simpa using hi
    | 1, hi => simpa using hi
    | 2, hi => simpa using hi
    | i + 3, hi => simp at hi
  | 2, hj =>
    simp only [List.getElem?_cons_succ, List.getElem?_cons_zero, Option.some.injEq] at hj
    subst hj
    refine ⟨[.int .u64 1, .int .u32 0, .int .u32 0], rfl, k25_mk _ _, fun i u hi => ?_⟩
    rw [add_plain, blk_cell h, hk]
    match i, hi with
    | 0, hi => simpa using hi
    | 1, hi => simpa using hi
    | 2, hi => simpa using hi
    | i + 3, hi => simp at hi
  | j + 3, hj => simp at hj
theorem three_sorted : sortL [] [(⟨3, 0, 0⟩ : S25), ⟨2, 0, 0⟩, ⟨1, 0, 0⟩] = [⟨1, 0, 0⟩, ⟨2, 0, 0⟩, ⟨3, 0, 0⟩] := by rfl
theorem value_step {P : Program} {ops : Array Oper} {Q : Exit → Act → World → Prop} {oi : Oper} {N : Option Tmp} {a : Act} {W w1 : World} {v : Value} {K : Act → World → Prop} (hw : Region.wanted oi (yielded ops a.tmps) = true) (hN : oi.dst = N) (hrun : (execOp a.eval oi).run P W = .ok (.value v) w1)
    (h : K (a.put N v) w1) : if Region.wanted oi (yielded ops a.tmps) = true then Oper.wp P oi a W K Q else K (a.put N undef) W := by
  rw [if_pos hw]
  unfold Oper.wp
  rw [hrun]
  subst hN
  exact h
theorem perm5 {α : Type} (a b c d e : α) (l : List α) : (a :: b :: c :: d :: e :: l).Perm (e :: d :: c :: b :: a :: l) := by
  have h := (List.reverse_perm [e, d, c, b, a]).append_right l
  simpa using h
/-- The law's question for shared memory, of some of the lists. -/
theorem apart_owns {w0 W : World} {qs ps : List (Value × List S25)} (h : Owns w0 W (qs ++ ps)) (hm : qs.length ≤ 1000) (hx : ∀ q, q ∈ qs → q.2.length ≤ 8796093021952) :
    Calls Try.prog 30 #[.slice (some ⟨W.heap.size, 0, none⟩) qs.length qs.length] (W.alloc (.cells (qs.map Prod.fst).toArray 41)) fun e w' => e = .returned (.bool true) ∧ Owns w0 w' ps := by
  have h1 := h.below (below_alloc (Below.refl _ _) (.cells (qs.map Prod.fst).toArray 41))
  obtain ⟨a1, a2, _⟩ := h1.asks
  obtain ⟨_, _, a3⟩ := h.asks
  have hc := apart_calls W.heap.size (qs.map Prod.fst) (qs.map Prod.snd) (W.alloc (.cells (qs.map Prod.fst).toArray 41)) (by simp) (by simpa using hm) (fun xs hxs => by
    obtain ⟨q, hq, rfl⟩ := List.mem_map.1 hxs
    exact hx q hq) (blk_new W _) a1 a2 (fun v hv e => by
    have := (a3 v hv _ e).1
    omega)
  rw [List.length_map] at hc
  exact hc.mono fun e w' ⟨he, hf⟩ => ⟨he, h1.split (fun v hv k e => (a3 v hv k e).2) hf⟩
set_option maxHeartbeats 4000000 in
theorem sorts_calls (A0 : Option Addr) (c0 : Nat) (l : List S25) (w : World) (hr0 : Kd.C k25 w A0 l.length l) (hc0 : l.length ≤ c0) (hn : l.length ≤ 8796093021952) :
    Calls Try.prog 11 #[.slice A0 l.length c0] w fun e w' => e = .returned (.bool true) ∧ Below w.heap.size w w' := by
  obtain ⟨r, hroom, hR⟩ := roomy_is l hn (k := 3 * l.length + 4) (by omega)
  have CCUT := Lib.hid (gives_cut l hn)
  have CREF := Lib.hid (gives_ref l hn)
  have CSORT := Lib.hid (gives_sort l hn)
  have CROOM : Hid (Gives 19 l r) := Lib.hid (gives_of fun A c w hC hc => tidemarklaw1_roomy.calls _ A c l r w hC hc hroom)
  have CSAME := Lib.hid (sames (sortL [] l) (by rw [sortL_length]; exact hn))
  have CSAMEL := Lib.hid (sames l hn)
  have CSP := Lib.hid (spares hR hn)
  have CAP := Lib.hid apart_calls
  have CTHREE : Hid (Gives 28 [⟨3, 0, 0⟩, ⟨2, 0, 0⟩, ⟨1, 0, 0⟩] [⟨1, 0, 0⟩, ⟨2, 0, 0⟩, ⟨3, 0, 0⟩]) := Lib.hid (three_sorted ▸ gives_sort [⟨3, 0, 0⟩, ⟨2, 0, 0⟩, ⟨1, 0, 0⟩] (by simp))
  have CNIL : Hid (Gives 28 [] []) := Lib.hid (gives_sort [] (by simp))
  have hsl := sortL_length l
  have HSL := Lib.hid hsl
  have HRL := Lib.hid hR.1
  have HRT := Lib.hid hR.take_
  have HR0 := Lib.hid hr0
  have HN := Lib.hid hn
  obtain ⟨s, hs⟩ : ∃ s, s = sortL [] l := ⟨_, rfl⟩
  rw [← hs] at CREF CSORT CSAME HSL
  have hu25 := Try.underlying25
  have O0 := Lib.hid (Owns.start w)
  clear hroom hR hsl hr0 hs
  go_enter Try.func11, Try.ntmps11
  go_wp2_with fail
  refine (CCUT.out _ _ _ HR0.out hc0).mono ?_
  rintro e w1 ⟨vl, rfl, ho1, hk1, hb1⟩
  obtain ⟨Al, cl, rfl, hcl⟩ := ho1.slice
  have O1 := Lib.hid (O0.out.push ho1 hk1 hb1)
  clear O0 ho1 hk1 hb1
  go_wp2_with fail
  refine (CREF.out _ _ _ (O1.out.at cl (by simp)) hcl).mono ?_
  rintro e w2 ⟨vw, rfl, ho2, hk2, hb2⟩
  obtain ⟨Aw, cw, rfl, hcw⟩ := ho2.slice
  have O2 := Lib.hid (O1.out.push ho2 hk2 hb2)
  clear O1 ho2 hk2 hb2
  go_wp2_with fail
  refine (CROOM.out _ _ _ (O2.out.at cl (by simp)) hcl).mono ?_
  rintro e w3 ⟨vr, rfl, ho3, hk3, hb3⟩
  obtain ⟨g, cR, rfl, _, hlg, _⟩ := Kd.R_form ho3 (by have := HRL.out; omega)
  have O3 := Lib.hid (O2.out.push ho3 hk3 hb3)
  have hcR := (Kd.R_reads' ho3).2.1
  have q1 : (l.length : Int) ≤ cR := by have := HRL.out; omega
  have q2 : l.length ≤ cR := by have := HRL.out; omega
  have q3 : l.length ≤ r.length := by have := HRL.out; omega
  clear O2 ho3 hk3 hb3
  have hgiven : Hid (∀ W : World, Kd.C k25 W (some ⟨g, 0, none⟩) r.length r → Kd.C k25 W (some ⟨g, 0, none⟩) l.length l) := Lib.hid fun W h => by
    have := C_take h q3
    rwa [HRT.out] at this
  go_wp2_with fail
  refine (CSORT.out _ _ _ (hgiven.out _ (O3.out.at cR (by simp))) q2).mono ?_
  rintro e w4 ⟨vo, rfl, ho4, hk4, hb4⟩
  obtain ⟨Ao, co, rfl, hco⟩ := ho4.slice
  have O4 := Lib.hid (O3.out.push ho4 hk4 hb4)
  clear O3 ho4 hk4 hb4
  go_wp2_with fail
  refine (CSAME.out _ _ _ _ _ (O4.out.at co (by simp)) hco (O4.out.at cw (by simp)) hcw).mono ?_
  rintro e w5 ⟨rfl, hb5⟩
  have O5 := Lib.hid (O4.out.below hb5)
  clear O4 hb5
  go_wp2_with fail
  refine (CSP.out _ _ _ _ _ (O5.out.at cR (by simp)) hcR (O5.out.at cl (by simp)) hcl).mono ?_
  rintro e w6 ⟨rfl, hb6⟩
  have O6 := Lib.hid (O5.out.below hb6)
  clear O5 hb6
  go_wp2_with fail
  refine (CSORT.out _ _ _ (hgiven.out _ (O6.out.at cR (by simp))) q2).mono ?_
  rintro e w7 ⟨vt, rfl, ho7, hk7, hb7⟩
  obtain ⟨At, ct, rfl, hct⟩ := ho7.slice
  have O7 := Lib.hid (O6.out.push ho7 hk7 hb7)
  clear O6 ho7 hk7 hb7
  go_wp2_with fail
  refine (CTHREE.out _ _ _ (C_three (blk_new w7 _)) (Nat.le_refl _)).mono ?_
  rintro e w8 ⟨vh, rfl, ho8, hk8, hb8⟩
  obtain ⟨Ah, ch, rfl, hch⟩ := ho8.slice
  obtain ⟨gh, rfl⟩ : ∃ gh, Ah = some ⟨gh, 0, none⟩ := by
    obtain ⟨gh, _, e, _⟩ := Kd.R_form ho8 (by simp)
    injection e with e
    exact ⟨gh, e⟩
  have O8 := Lib.hid ((O7.out.below (below_alloc (Below.refl _ _) _)).push ho8 hk8 hb8)
  clear O7 ho8 hk8 hb8
  go_wp2_with fail
  refine (CSAME.out _ _ _ _ _ (O8.out.at co (by simp)) hco (O8.out.at cw (by simp)) hcw).mono ?_
  rintro e w9 ⟨rfl, hb9⟩
  have O9 := Lib.hid (O8.out.below hb9)
  clear O8 hb9
  go_wp2_with fail
  refine (CSAME.out _ _ _ _ _ (O9.out.at ct (by simp)) hct (O9.out.at cw (by simp)) hcw).mono ?_
  rintro e w10 ⟨rfl, hb10⟩
  have O10 := Lib.hid (O9.out.below hb10)
  clear O9 hb10
  have hCh : Kd.C k25 w10 (some ⟨gh, 0, none⟩) 3 [(⟨1, 0, 0⟩ : S25), ⟨2, 0, 0⟩, ⟨3, 0, 0⟩] := O10.out.at (xs := [⟨1, 0, 0⟩, ⟨2, 0, 0⟩, ⟨3, 0, 0⟩]) ch (by simp)
  have e0 : w10.cell? ⟨gh, 0, none⟩ = some (.int .u64 1) := by
    obtain ⟨ad, e, h, _⟩ := at_T25 hCh 0 (by omega) (by omega)
    cases e
    rw [add_plain] at h
    exact h
  have d0 : w10.cell? ⟨gh, 6, none⟩ = some (.int .u64 3) := by
    obtain ⟨ad, e, h, _⟩ := at_T25 hCh 2 (by omega) (by omega)
    cases e
    rw [add_plain] at h
    exact h
  clear hCh
  go_wp2_with fail
  refine start_ (n := 10) (S := fun _ => True) (ds := []) #[false, false, false, false, false, false, false, false, false, false] (by kernel_rfl) rfl rfl trivial (fun hHeld => ?_)
  refine pure_ (i := 0) (N := some 71) (v := ?_) (a' := ?_) #[true, false, false, false, false, false, false, false, false, false] rfl rfl (by kernel_rfl) (fun _ _ _ h => h) (Or.inl ⟨by rfl, ?_⟩) ?_ ?_
  rotate_left
  · intro w'
    go_simp
    with_reducible rfl
  rotate_left
  · simp only [Act.put, List.setIfInBounds_toArray, List.set_cons_zero, List.set_cons_succ]
    rfl
  refine pure_ (i := 1) (N := some 72) (v := ?_) (a' := ?_) #[true, true, false, false, false, false, false, false, false, false] rfl rfl (by kernel_rfl) (fun _ _ _ h => h) (Or.inl ⟨by rfl, ?_⟩) ?_ ?_
  rotate_left
  · intro w'
    go_simp
    with_reducible rfl
  rotate_left
  · simp only [Act.put, List.setIfInBounds_toArray, List.set_cons_zero, List.set_cons_succ]
    rfl
  refine pure_ (i := 2) (N := some 73) (v := ?_) (a' := ?_) #[true, true, true, false, false, false, false, false, false, false] rfl rfl (by kernel_rfl) (fun _ _ _ h => h) (Or.inl ⟨by rfl, ?_⟩) ?_ ?_
  rotate_left
  · intro w'
    go_simp
    with_reducible rfl
  rotate_left
  · simp only [Act.put, List.setIfInBounds_toArray, List.set_cons_zero, List.set_cons_succ]
    rfl
  refine pure_ (i := 4) (N := some 75) (v := ?_) (a' := ?_) #[true, true, true, false, true, false, false, false, false, false] rfl rfl (by kernel_rfl) (fun _ _ _ h => h) (Or.inl ⟨by rfl, ?_⟩) ?_ ?_
  rotate_left
  · intro w'
    go_simp
    with_reducible rfl
  rotate_left
  · simp only [Act.put, List.setIfInBounds_toArray, List.set_cons_zero, List.set_cons_succ]
    rfl
  refine pure_ (i := 5) (N := some 76) (v := ?_) (a' := ?_) #[true, true, true, false, true, true, false, false, false, false] rfl rfl (by kernel_rfl) (fun _ _ _ h => h) (Or.inl ⟨by rfl, ?_⟩) ?_ ?_
  rotate_left
  · intro w'
    go_simp
    with_reducible rfl
  rotate_left
  · simp only [Act.put, List.setIfInBounds_toArray, List.set_cons_zero, List.set_cons_succ]
    rfl
  refine one_ (i := 3) (N := some 74) #[true, true, true, true, true, true, false, false, false, false] rfl rfl (by kernel_rfl) (by decide) (fun K hK => ?_)
  refine goes_ Try.func28 (by kernel_rfl) rfl #[.slice none 0 0] (by rfl) rfl rfl (by simp only [List.map_toArray, List.map_cons, List.map_nil]; rfl) ?_
  refine (CNIL.out none 0 _ ⟨rfl, Nat.zero_le _, fun h => absurd h (Nat.lt_irrefl 0)⟩ (Nat.le_refl _)).mono ?_
  rintro e w11 ⟨vn, rfl, ho11, hk11, hb11⟩
  obtain ⟨An, cn, rfl, hcn⟩ := ho11.slice
  have O11 := Lib.hid ((O10.out.below (below_drew1 (Below.refl _ _))).push ho11 hk11 hb11)
  clear O10 ho11 hk11 hb11
  refine ⟨_, rfl, ?_⟩
  refine hK.out _ _ (trivial) (fun hHeld => ?_)
  clear hK K
  refine norm_ (a' := ?_) ?_ ?_
  rotate_left
  · show Act.put _ (some 74) _ = _
    simp only [Act.put, List.setIfInBounds_toArray, List.set_cons_zero, List.set_cons_succ]
    rfl
  refine one_ (i := 6) (N := some 77) #[true, true, true, true, true, true, true, false, false, false] rfl rfl (by kernel_rfl) (by decide) (fun K hK => ?_)
  refine goes_ Try.func28 (by kernel_rfl) rfl #[.slice (some ⟨g, 0, none⟩) 0 cR] (by rfl) rfl rfl (by simp only [List.map_toArray, List.map_cons, List.map_nil]; rfl) ?_
  refine (CNIL.out (some ⟨g, 0, none⟩) cR _ ⟨rfl, Nat.zero_le _, fun h => absurd h (Nat.lt_irrefl 0)⟩ (Nat.zero_le _)).mono ?_
  rintro e w12 ⟨ve, rfl, ho12, hk12, hb12⟩
  obtain ⟨Ae, ce, rfl, hce⟩ := ho12.slice
  have O12 := Lib.hid (O11.out.push ho12 hk12 hb12)
  clear O11 ho12 hk12 hb12
  refine ⟨_, rfl, ?_⟩
  refine hK.out _ _ (trivial) (fun hHeld => ?_)
  clear hK K
  refine norm_ (a' := ?_) ?_ ?_
  rotate_left
  · show Act.put _ (some 77) _ = _
    simp only [Act.put, List.setIfInBounds_toArray, List.set_cons_zero, List.set_cons_succ]
    rfl
  refine one_ (i := 7) (N := some 78) #[true, true, true, true, true, true, true, true, false, false] rfl rfl (by kernel_rfl) (by decide) (fun K hK => ?_)
  refine value_step (w1 := w12.alloc (.cells #[.slice Ao s.length co, .slice At s.length ct, .slice (some ⟨gh, 0, none⟩) 3 ch, .slice An 0 cn, .slice Ae 0 ce] 41)) (v := .slice (some ⟨w12.heap.size, 0, none⟩) 5 5) (by rfl) rfl (by first | (go_simp; done) | (go_simp; rfl)) ?_
  refine hK.out _ _ trivial (fun hHeld => ?_)
  clear hK K
  refine norm_ (a' := ?_) ?_ ?_
  rotate_left
  · show Act.put _ (some 78) _ = _
    simp only [Act.put, List.setIfInBounds_toArray, List.set_cons_zero, List.set_cons_succ]
    rfl
  have OA := apart_owns (w0 := w) (W := w12) (qs := [(Value.slice Ao s.length co, s), (Value.slice At s.length ct, s), (Value.slice (some ⟨gh, 0, none⟩) 3 ch, [⟨1, 0, 0⟩, ⟨2, 0, 0⟩, ⟨3, 0, 0⟩]), (Value.slice An 0 cn, []), (Value.slice Ae 0 ce, [])]) (ps := [(Value.slice (some ⟨g, 0, none⟩) r.length cR, r), (Value.slice Aw s.length cw, s), (Value.slice Al l.length cl, l)]) (O12.out.perm (perm5 _ _ _ _ _ _)) (by simp) (by intro q hq; simp only [List.mem_cons, List.not_mem_nil, or_false] at hq; have := HSL.out; rcases hq with rfl | rfl | rfl | rfl | rfl <;> simp <;> omega)
  replace OA := Lib.hid OA
  refine one_ (i := 8) (N := some 79) #[true, true, true, true, true, true, true, true, true, false] rfl rfl (by kernel_rfl) (by decide) (fun K hK => ?_)
  refine goes_ Try.func30 (by kernel_rfl) rfl #[.slice (some ⟨w12.heap.size, 0, none⟩) 5 5] (by rfl) rfl rfl (by simp only [List.map_toArray, List.map_cons, List.map_nil]; rfl) ?_
  refine (OA.out).mono ?_
  rintro e w13 ⟨rfl, O13⟩
  replace O13 := Lib.hid O13
  clear O12 OA
  refine ⟨_, rfl, ?_⟩
  refine hK.out _ _ (trivial) (fun hHeld => ?_)
  clear hK K
  refine norm_ (a' := ?_) ?_ ?_
  rotate_left
  · show Act.put _ (some 79) _ = _
    simp only [Act.put, List.setIfInBounds_toArray, List.set_cons_zero, List.set_cons_succ]
    rfl
  refine pure_ (i := 9) (N := some 80) (v := ?_) (a' := ?_) #[true, true, true, true, true, true, true, true, true, true] rfl rfl (by kernel_rfl) (fun _ _ _ h => h) (Or.inl ⟨by rfl, ?_⟩) ?_ ?_
  rotate_left
  · intro w'
    go_simp
    with_reducible rfl
  rotate_left
  · simp only [Act.put, List.setIfInBounds_toArray, List.set_cons_zero, List.set_cons_succ]
    rfl
  refine done_ (by kernel_rfl) ?_
  clear e0 d0 hHeld
  go_wp2_with fail
  refine (CSORT.out _ _ _ (hgiven.out _ (O13.out.at cR (by simp))) q2).mono ?_
  rintro e w14 ⟨va, rfl, ho14, hk14, hb14⟩
  obtain ⟨Aa, ca, rfl, hca⟩ := ho14.slice
  have O14 := Lib.hid (O13.out.push ho14 hk14 hb14)
  clear O13 ho14 hk14 hb14
  go_wp2_with fail
  refine (CSAMEL.out _ _ _ _ _ (hgiven.out _ (O14.out.at cR (by simp))) q2 (O14.out.at cl (by simp)) hcl).mono ?_
  rintro e w15 ⟨rfl, hb15⟩
  have O15 := Lib.hid (O14.out.below hb15)
  clear O14 hb15
  go_wp2_with fail
  refine (CSAME.out _ _ _ _ _ (O15.out.at ca (by simp)) hca (O15.out.at cw (by simp)) hcw).mono ?_
  rintro e w16 ⟨rfl, hb16⟩
  have O16 := Lib.hid (O15.out.below hb16)
  clear O15 hb16
  go_wp2_with fail
  refine (CSP.out _ _ _ _ _ (O16.out.at cR (by simp)) hcR (O16.out.at cl (by simp)) hcl).mono ?_
  rintro e w17 ⟨rfl, hb17⟩
  have O17 := Lib.hid (O16.out.below hb17)
  clear O16 hb17
  go_wp2_with fail
  go_loopw [11] (fun v wr => ∃ (k : Nat) (xs : List S25), k ≤ l.length ∧ v = .int .i64 k ∧ xs.length = r.length ∧ Owns w wr [(.slice Aa s.length ca, s), (.slice (some ⟨g, 0, none⟩) r.length cR, xs), (.slice Aw s.length cw, s), (.slice Al l.length cl, l)]) (fun v _ => l.length - (intOf v).toNat)
  case atStart => exact ⟨0, r, by omega, rfl, rfl, O17.out⟩
  case round =>
    clear O17
    obtain ⟨k, xs, hk, rfl, hxl, HO⟩ := hrel
    have HXL := Lib.hid hxl
    clear hxl
    have ho : Own wr (.slice (some ⟨g, 0, none⟩) r.length cR) xs := HO.own (.slice (some ⟨g, 0, none⟩) r.length cR, xs) (by simp)
    by_cases hlt : k < l.length
    · have h1 : (k : Int) < r.length := by omega
      obtain ⟨ce, hcl, hM, hcc, hfr⟩ := Kd.R_elem ho z25 (k : Int) (by omega) h1
      have hce := k25_openM hM
      subst hce
      have f0 := hfr 0
      have f1 := hfr 1
      have f2 := hfr 2
      have e0 := hcc 0 _ rfl
      have e1 := hcc 1 _ rfl
      have e2 := hcc 2 _ rfl
      have hseg := fun a : Int => Kd.R_seg (okp := fun _ => False) ho (k : Int) (by omega) h1 (seg := [.int .u64 a, .int .u32 0, .int .u32 0]) (j := 0) hcl hcc (show 3 ≤ 3 from by decide) (x' := (⟨a, 0, 0⟩ : S25)) (k25_mkM _ _ _ _) (fun _ hk => hk.elim)
      simp only [Int.toNat_natCast, Nat.add_zero] at f0 f1 f2 e0 e1 e2 hseg
      have hz : k25.sz = 3 := rfl
      simp only [hz, Nat.add_zero] at f0 f1 f2 e0 e1 e2 hseg
      have HSEG := Lib.hid hseg
      clear hcc hfr hM hcl hseg hz ho
      have h2 : (k : Int) < cR := by omega
      have h3 : k < r.length := by omega
      replace HO := Lib.hid HO
      go_wp2_with fail
      have hs := HSEG.out ((l.length : Int) - (k : Int))
      simp only [World.setCells, Nat.add_assoc] at hs
      exact ⟨⟨k + 1, _, by omega, by go_num, by rw [List.length_set]; exact HXL.out, HO.out.turn (own_of hs.1) hs.2⟩, by simp [intOf]; omega⟩
    · have hk1 : ¬ (k : Int) < l.length := by omega
      obtain ⟨m, hm⟩ : ∃ m, m = xs.take l.length := ⟨_, rfl⟩
      have hml : m.length = l.length := by
        rw [hm, List.length_take]
        have := HXL.out
        omega
      have CG : ∀ W : World, Owns w W [(.slice Aa s.length ca, s), (.slice (some ⟨g, 0, none⟩) r.length cR, xs), (.slice Aw s.length cw, s), (.slice Al l.length cl, l)] → Kd.C k25 W (some ⟨g, 0, none⟩) m.length m := fun W h => by
        have hC := (h.own (.slice (some ⟨g, 0, none⟩) r.length cR, xs) (by simp)).c
        have := C_take hC (show l.length ≤ xs.length by have := HXL.out; omega)
        rwa [← hm, ← hml] at this
      have hmn : m.length ≤ 8796093021952 := by have := HN.out; omega
      have CS2 := gives_sort m hmn (some ⟨g, 0, none⟩) cR
      have CR2 := gives_ref m hmn (some ⟨g, 0, none⟩) cR
      have CM2 := Lib.hid (sames (sortL [] m) (by rw [sortL_length]; exact hmn))
      have hql : m.length ≤ cR := by omega
      have HQL := Lib.hid hql
      rw [hml] at CS2 CR2
      generalize sortL [] m = z at CS2 CR2 CM2
      replace CG := Lib.hid (fun W h => (hml ▸ CG W h : Kd.C k25 W (some ⟨g, 0, none⟩) l.length m))
      replace CS2 := Lib.hid CS2
      replace CR2 := Lib.hid CR2
      replace HO := Lib.hid HO
      clear hm hml hql hmn ho
      go_wp2_with fail
      refine (CS2.out _ (CG.out _ HO.out) q2).mono ?_
      rintro e w18 ⟨vo, rfl, ho18, hk18, hb18⟩
      obtain ⟨Ao, co, rfl, hco⟩ := ho18.slice
      have O18 := Lib.hid (HO.out.push ho18 hk18 hb18)
      clear HO ho18 hk18 hb18
      go_wp2_with fail
      refine (CR2.out _ (CG.out _ O18.out.drop) q2).mono ?_
      rintro e w19 ⟨vz, rfl, ho19, hk19, hb19⟩
      obtain ⟨Az, cz, rfl, hcz⟩ := ho19.slice
      have O19 := Lib.hid (O18.out.push ho19 hk19 hb19)
      clear O18 ho19 hk19 hb19
      go_wp2_with fail
      refine (CM2.out _ _ _ _ _ (O19.out.at co (by simp)) hco (O19.out.at cz (by simp)) hcz).mono ?_
      rintro e w20 ⟨rfl, hb20⟩
      have O20 := Lib.hid (O19.out.below hb20)
      clear O19 hb20
      go_wp2_with fail
      refine (CSAME.out _ _ _ _ _ (O20.out.at ca (by simp)) hca (O20.out.at cw (by simp)) hcw).mono ?_
      rintro e w21 ⟨rfl, hb21⟩
      have O21 := Lib.hid (O20.out.below hb21)
      clear O20 hb21
      go_wp2_with fail
      go_ret
      exact ⟨rfl, O21.out.bel⟩
end Go.Proofs.Ytljkipkcabjcaaa.PStampSorts
