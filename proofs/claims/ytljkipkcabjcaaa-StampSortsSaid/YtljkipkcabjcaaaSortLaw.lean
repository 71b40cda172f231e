/-
  What slices.SortFunc leaves of a list of stamps in a block of its own: the document's sorted list.
-/
import Derived.Test.YtljkipkcabjcaaaApp
import Derived.Test.YtljkipkcabjcaaaShelf
namespace Go.Proofs.Ytljkipkcabjcaaa.PStampSorts
set_option linter.unusedSimpArgs false
set_option linter.unusedVariables false
open Go.RowKit Go.Sort Go.Proofs.YtljkipkcabjcaaaW.PrintWords Go.Proofs.YtljkipkcabjcaaaW.PrintLast Go.Proofs.YtljkipkcabjcaaaW.PrintMore
instance : Inhabited S25 := ⟨z25⟩
def enc25 (x : S25) : List Value := [.int .u64 x.f0, .int .u32 x.f1, .int .u32 x.f2]
theorem enc25_one (x : S25) : ∀ v ∈ enc25 x, v.oneCell' = true := by
  intro v hv
  simp only [enc25, List.mem_cons, List.not_mem_nil, or_false] at hv
  rcases hv with rfl | rfl | rfl <;> rfl
/-- Two rising lists of the same stamps are the same. -/
theorem rising_eq : ∀ (l m : List S25), Rising l → Rising m → l.Perm m → l = m
  | [], m, _, _, hp => (List.nil_perm.1 hp).symm
  | a :: l, [], _, _, hp => absurd hp.length_eq (by simp)
  | a :: l, b :: m, hl, hm, hp => by
    have hab : a = b := by
      by_cases h : a = b
      · exact h
      · have ha : a ∈ m := by
          rcases List.mem_cons.1 (hp.subset (List.mem_cons_self (a := a))) with h' | h'
          · exact absurd h' h
          · exact h'
        have hb : b ∈ l := by
          rcases List.mem_cons.1 (hp.symm.subset (List.mem_cons_self (a := b))) with h' | h'
          · exact absurd h'.symm h
          · exact h'
        exact lt_total ((List.pairwise_cons.1 hm).1 a ha) ((List.pairwise_cons.1 hl).1 b hb)
    subst hab
    rw [rising_eq l m (List.pairwise_cons.1 hl).2 (List.pairwise_cons.1 hm).2 ((List.perm_cons a).1 hp)]
theorem sorted_is {xs : List S25} {d' : Array S25} (hp : PermIn 0 xs.toArray.size xs.toArray d') (hs : SortedIn (ltOf cmp) 0 xs.toArray.size d') : d'.toList = sortL [] xs := by
  obtain ⟨h1, _, h2⟩ := hp
  have hsz : d'.size = xs.length := by rw [h1]; simp
  have e1 : (d'.extract 0 xs.toArray.size) = d' := by rw [← h1]; simp
  have e2 : (xs.toArray.extract 0 xs.toArray.size) = xs.toArray := by simp
  rw [e1, e2] at h2
  obtain ⟨r1, r2⟩ := sortL_spec xs [] List.Pairwise.nil
  refine rising_eq _ _ ?_ r1 (h2.trans ?_)
  · unfold Rising
    rw [List.pairwise_iff_getElem]
    intro i j hi hj hij
    have := hs i j (Nat.zero_le _) hij (by rw [← h1]; simpa using hj)
    rw [ltOf, cmp_lt] at this
    rwa [getElem!_pos d' i (by simpa using hi), getElem!_pos d' j (by simpa using hj)] at this
  · rw [List.nil_append] at r2
    exact r2.symm
theorem cmp_swo : SWO (ltOf cmp) := ⟨fun x => by rw [ltOf, cmp_lt]; exact lt_irrefl x, fun x y z h k => by rw [ltOf, cmp_lt] at *; exact lt_trans h k, fun x y z h k => by rw [ltOf, cmp_lt] at *; exact lt_ntrans h k⟩
theorem cmp_lays (blk off size : Nat) (w : World) : CmpLays Try.prog 14 #[] enc25 3 cmp blk off size w := fun m os dk _ x y => compare_grew x.f0 x.f1 x.f2 y.f0 y.f1 y.f2 _
theorem enc_get (x : S25) (j : Nat) (u : Value) (h : (enc25 x)[j]? = some u) : (enc25 x)[j]! = u := by rw [List.getElem!_eq_getElem?_getD, h]; rfl
theorem own_holds {w : World} {g cap : Nat} {xs : List S25} (h : Own w (.slice (some ⟨g, 0, none⟩) xs.length cap) xs) : HoldsK enc25 3 w g 0 xs.toArray := by
  intro t ht
  rw [size_flatK] at ht
  have ht' : t < xs.length * 3 := by simpa using ht
  obtain ⟨cs, hcl, hM, hcc, hfz⟩ := Kd.R_elem h z25 ((t / 3 : Nat) : Int) (by omega) (by omega)
  rw [k25_openM hM] at hcc
  have hx : xs.getD ((t / 3 : Nat) : Int).toNat z25 = xs.toArray[t / 3]! := by
    rw [Int.toNat_natCast, getElem!_pos xs.toArray (t / 3) (by simp; omega), List.getD_eq_getElem?_getD, List.getElem?_eq_getElem (by omega)]
    simp
  rw [hx] at hcc
  have hd : t / 3 * 3 + t % 3 = t := by omega
  have hk : k25.sz = 3 := rfl
  have hlt : t % 3 < (enc25 xs.toArray[t / 3]!).length := by show t % 3 < 3; omega
  have hc := hcc (t % 3) _ (List.getElem?_eq_getElem hlt)
  have hf := hfz (t % 3)
  rw [Int.toNat_natCast, hk, hd] at hc hf
  rw [get_flatK _ _ _ _ ht, Nat.zero_add]
  refine ⟨hc.trans ?_, hf⟩
  show some _ = some (id _)
  rw [id, enc_get _ _ _ (List.getElem?_eq_getElem hlt)]
theorem own_sorted {w1 : World} {g n cap m : Nat} {xs : List S25} {d' : Array S25} {os : Array Obj} (h : Own w1 (.slice (some ⟨g, 0, none⟩) n cap) xs) (hn : xs.length = n) (hd : d'.size = n) :
    Own (sortWorldK enc25 3 w1 g 0 m d' os) (.slice (some ⟨g, 0, none⟩) n cap) d'.toList ∧ w1.grownBy (sortWorldK enc25 3 w1 g 0 m d' os) (some g) := by
  have hgl : g < w1.heap.size := h.lt (k := g) rfl
  obtain ⟨_, inner, ⟨hl, hown⟩, _⟩ := h
  rcases hown with ⟨hv, _⟩ | ⟨g', cap', cur, hv, hb, hh, hnc, hcm, hcs, htk⟩
  · cases hv
  injection hv with ha _ hc
  injection ha with ha
  injection ha with hg'
  subst hg'; subst hc
  rw [hn] at hnc
  have hcs' : cur.size = cap * 3 := hcs
  have hheap : ∀ k, k < w1.heap.size → (sortWorldK enc25 3 w1 g 0 m d' os).heap[k]? = (w1.heap.modify g (onCells (putCells id 0 (flatK enc25 3 d'))))[k]? := fun k hk => by
    unfold sortWorldK
    rw [heap_grow_old _ _ (by simpa [putRowK] using hk)]
    rfl
  have hnew : (sortWorldK enc25 3 w1 g 0 m d' os).heap[g]? = some (.cells (putCells id 0 (flatK enc25 3 d') cur) 25 (0, 0)) := by
    rw [hheap g hgl, Array.getElem?_modify, if_pos rfl, hh]
    rfl
  have hsz : (flatK enc25 3 d').size = n * 3 := by rw [size_flatK, hd]
  refine ⟨⟨fun k hk => hk, (flatK enc25 3 d').toList, ⟨by rw [Array.length_toList, hsz, Array.length_toList, hd]; rfl, .inr ⟨g, cap, _, by rw [Array.length_toList, hd], hb, hnew, by rw [Array.length_toList, hd]; exact hnc, hcm, by simpa [putCells] using hcs, ?_⟩⟩, ⟨by rw [Array.length_toList, hsz, Array.length_toList, hd]; rfl, fun j p hj => ?_⟩⟩, ⟨rfl, rfl, rfl, by simp [sortWorldK, putRowK], fun k hk hne => ?_⟩⟩
  · refine List.ext_getElem? fun t => ?_
    rw [Array.length_toList, hd, List.getElem?_take]
    have hk3 : n * k25.sz = n * 3 := rfl
    by_cases ht : t < n * k25.sz
    · rw [if_pos ht]
      rw [hk3] at ht
      have ht2 : t < cur.size := by rw [hcs']; have := Nat.mul_le_mul_right 3 hnc; omega
      simp [putCells, ht2, hsz, ht]
    · rw [if_neg ht]
      rw [hk3] at ht
      rw [List.getElem?_eq_none (by rw [Array.length_toList, hsz]; omega)]
  · have hjl : j < d'.size := by simpa using (List.getElem?_eq_some_iff.1 hj).1
    have hp : d'[j]! = p := by
      rw [getElem!_pos d' j hjl]
      have := (List.getElem?_eq_some_iff.1 hj).2
      simpa using this
    have hseg : ((flatK enc25 3 d').toList.drop (j * k25.sz)).take k25.sz = enc25 p := by
      refine List.ext_getElem? fun q => ?_
      have hk3 : k25.sz = 3 := rfl
      rw [List.getElem?_take, List.getElem?_drop, hk3]
      by_cases hq : q < 3
      · rw [if_pos hq]
        have hlt : j * 3 + q < d'.size * 3 := by omega
        have e1 : (j * 3 + q) / 3 = j := by omega
        have e2 : (j * 3 + q) % 3 = q := by omega
        have hg := get_flatK enc25 3 d' (j * 3 + q) hlt
        rw [e1, e2, hp] at hg
        rw [getElem!_pos _ _ (by rw [size_flatK]; exact hlt)] at hg
        rw [Array.getElem?_toList, Array.getElem?_eq_getElem (by rw [size_flatK]; exact hlt), hg]
        have hq' : q < (enc25 p).length := hq
        rw [List.getElem?_eq_getElem hq', enc_get _ _ _ (List.getElem?_eq_getElem hq')]
      · rw [if_neg hq, List.getElem?_eq_none]
        show 3 ≤ q
        omega
    rw [hseg]
    exact k25_mkM _ _ _ p
  · rw [hheap k hk, Array.getElem?_modify, if_neg (fun e => hne (by rw [e]))]
end Go.Proofs.Ytljkipkcabjcaaa.PStampSorts
