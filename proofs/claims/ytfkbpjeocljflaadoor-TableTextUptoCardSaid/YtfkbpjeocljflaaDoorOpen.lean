/-
  What a law's argument reads as: a value of a type whose cells read as a kind of the print's words is read into numbers, strings, lists and structures of them; where its bulk is within the bound, so is every list's and string's length.
-/
import Derived.Test.YtfkbpjeocljflaaDoorWWords
import Derived.SizedLaws
import Derived.ChangeSlices
import Derived.WideShapes
import Derived.ProofKit
import Derived.Test.YtfkbpjeocljflaaDoorRows
namespace Go.Proofs.YtfkbpjeocljflaaDoor.Open
open Go.ChangeShapes Go.WideShapes Go.RowKit Go.Proofs.YtfkbpjeocljflaaDoorW.PrintWords

/-- Cells that read as data of type t, of a bulk within the bound, hold a value of kind d that fits F. -/
def Opens {α : Type} (P : Program) (t : TypeId) (d : Kd α) (F : α → Prop) : Prop :=
  d.sz = P.cellsOf t ∧ ∀ {H : Type} (enc : TypeId × Value → H) (w : World) (base : Nat) (spare : Nat → Bool) (held : Bool) (fuel : Nat) (cs : List Value) (x : DataW H × List MemPlace),
    DataW.trod enc P w base spare held fuel t cs = some x → Rows.uptoBulk x.1 ≤ 1048576 → ∃ a, d.K w a cs ∧ F a

theorem opens_int {P : Program} {t : TypeId} {k : IntKind} (ht : P.underlying t = some (.int k)) (hc : P.cellsOf t = 1) : Opens P t (Kd.int k) (fun n => (Lit.int k n).wf = true) := by
  refine ⟨hc.symm, fun enc w base spare held fuel cs x h _ => ?_⟩
  obtain ⟨n, rfl, rfl, hw⟩ := DataW.trod_int ht h
  exact ⟨n, rfl, hw⟩

theorem opens_bool {P : Program} {t : TypeId} (ht : P.underlying t = some .bool) (hc : P.cellsOf t = 1) : Opens P t Kd.bool (fun _ => True) := by
  refine ⟨hc.symm, fun enc w base spare held fuel cs x h _ => ?_⟩
  obtain ⟨n, rfl, rfl⟩ := DataW.trod_bool ht h
  exact ⟨n, rfl, trivial⟩

theorem opens_string {P : Program} {t : TypeId} (ht : P.underlying t = some .string) (hc : P.cellsOf t = 1) : Opens P t Kd.string (fun s => s.size ≤ 1048576) := by
  refine ⟨hc.symm, fun enc w base spare held fuel cs x h hw => ?_⟩
  obtain ⟨s, rfl, hx, _⟩ := DataW.trod_string ht h
  rw [hx] at hw
  refine ⟨s, rfl, ?_⟩
  simp only [Rows.uptoBulk] at hw
  have e : s.data.toList.length = s.size := by simp
  omega

theorem opens_iso {α β : Type} {P : Program} {t : TypeId} {d : Kd α} {F : α → Prop} (f : β → α) (g : α → β) (hg : ∀ a, f (g a) = a) (h : Opens P t d F) : Opens P t (Kd.iso d f) (fun b => F (f b)) := by
  refine ⟨h.1, fun enc w base spare held fuel cs x hx hw => ?_⟩
  obtain ⟨a, hK, hF⟩ := h.2 enc w base spare held fuel cs x hx hw
  refine ⟨g a, ?_, show F (f (g a)) by rw [hg]; exact hF⟩
  show d.K w (f (g a)) cs
  rw [hg]
  exact hK

theorem bulk_one {H : Type} (x : DataW H) (l : List (DataW H)) : Rows.uptoBulk x ≤ Rows.uptoBulkAll (x :: l) := by simp only [Rows.uptoBulkAll]; omega
theorem bulk_rest {H : Type} (x : DataW H) (l : List (DataW H)) : Rows.uptoBulkAll l ≤ Rows.uptoBulkAll (x :: l) := by simp only [Rows.uptoBulkAll]; omega
theorem bulk_mem {H : Type} {d : DataW H} : ∀ {l : List (DataW H)}, d ∈ l → Rows.uptoBulk d ≤ Rows.uptoBulkAll l
  | x :: l, h => by
    rcases List.mem_cons.1 h with rfl | h
    · exact bulk_one _ _
    · exact Nat.le_trans (bulk_mem h) (bulk_rest _ _)
theorem bulk_pos {H : Type} (d : DataW H) : 1 ≤ Rows.uptoBulk d := by
  cases d with
  | lit l => cases l <;> simp [Rows.uptoBulk]
  | nil => simp [Rows.uptoBulk]
  | ptr d => simp [Rows.uptoBulk]
  | slice elems spare => simp [Rows.uptoBulk]
  | agg parts => simp [Rows.uptoBulk]
  | iface t d => simp [Rows.uptoBulk]
  | map entries => simp [Rows.uptoBulk]
  | held h => simp [Rows.uptoBulk]
theorem bulk_length {H : Type} : ∀ l : List (DataW H), l.length ≤ Rows.uptoBulkAll l
  | [] => Nat.zero_le _
  | x :: l => by
    have := bulk_pos x
    have := bulk_length l
    simp only [Rows.uptoBulkAll, List.length_cons]
    omega

/-- Fields in line, from place o on. -/
def OpensFs {α : Type} (P : Program) (fs : List Field) (o : Nat) (d : Kd α) (F : α → Prop) : Prop :=
  ∀ (H : Type) (enc : TypeId × Value → H) (w : World) (base : Nat) (spare : Nat → Bool) (held : Bool) (fuel : Nat) (cs : List Value) (xs : List (DataW H × List MemPlace)),
    xs.length = fs.length → (∀ (i : Nat) (f : Field), fs[i]? = some f → DataW.trod enc P w base spare held fuel f.type ((cs.drop f.offset).take (P.cellsOf f.type)) = xs[i]?) →
    Rows.uptoBulkAll (xs.map (·.1)) ≤ 1048576 → cs.length = o + d.sz → ∃ a, d.K w a (cs.drop o) ∧ F a

theorem opensFs_one {α : Type} {P : Program} {f : Field} {t : TypeId} {o : Nat} {d : Kd α} {F : α → Prop} (hf : f.type = t) (ho : f.offset = o) (h : Opens P t d F) : OpensFs P [f] o d F := by
  intro H enc w base spare held fuel cs xs hl hx hw hc
  subst hf
  subst ho
  match xs, hl with
  | [x], _ =>
    have h0 := hx 0 f rfl
    rw [← h.1, List.take_of_length_le (by rw [List.length_drop]; omega)] at h0
    exact h.2 enc w base spare held fuel _ x h0 (Nat.le_trans (bulk_one _ _) hw)

theorem opensFs_cons {α β : Type} {P : Program} {f : Field} {t : TypeId} {fs : List Field} {o n1 : Nat} {d : Kd α} {F : α → Prop} {e : Kd β} {G : β → Prop} (hf : f.type = t) (ho : f.offset = o) (hn1 : d.sz = n1) (h : Opens P t d F) (hs : OpensFs P fs (o + n1) e G) :
    OpensFs P (f :: fs) o (Kd.pair d e) (fun x => F x.1 ∧ G x.2) := by
  intro H enc w base spare held fuel cs xs hl hx hw hc
  subst hf
  subst ho
  subst hn1
  match xs, hl with
  | x :: xs, hl =>
    have h0 := hx 0 f rfl
    rw [← h.1] at h0
    obtain ⟨a, ka, fa⟩ := h.2 enc w base spare held fuel _ x h0 (Nat.le_trans (bulk_one _ _) hw)
    have hc' : cs.length = f.offset + (d.sz + e.sz) := hc
    obtain ⟨b, kb, fb⟩ := hs H enc w base spare held fuel cs xs (by simpa using hl) (fun i g hg => hx (i + 1) g (by simpa using hg)) (Nat.le_trans (bulk_rest _ _) hw) (by omega)
    refine ⟨(a, b), ⟨(cs.drop f.offset).take d.sz, cs.drop (f.offset + d.sz), ?_, ka, kb⟩, fa, fb⟩
    rw [← List.drop_drop, List.take_append_drop]

theorem opens_struct {α : Type} {P : Program} {t : TypeId} {fs : Array Field} {d : Kd α} {F : α → Prop} (ht : P.underlying t = some (.struct fs)) (hc : P.cellsOf t = d.sz) (h : OpensFs P fs.toList 0 d F) : Opens P t d F := by
  refine ⟨hc.symm, fun enc w base spare held fuel cs x hx hw => ?_⟩
  obtain ⟨xs, n, rfl, rfl, hcl, hxl, hf⟩ := DataW.trod_struct ht hx
  have z := h _ enc w base spare held n cs xs (by simpa using hxl) (fun i f hi => hf i f (by simpa using hi)) (by simp only [Rows.uptoBulk] at hw; omega) (by omega)
  simpa using z

theorem list_of {α : Type} {Q : Nat → α → Prop} : ∀ n : Nat, (∀ i, i < n → ∃ a, Q i a) → ∃ l : List α, l.length = n ∧ ∀ i a, l[i]? = some a → Q i a
  | 0, _ => ⟨[], rfl, fun i a h => by simp at h⟩
  | n + 1, h => by
    obtain ⟨l, hl, hq⟩ := list_of n (fun i hi => h i (by omega))
    obtain ⟨a, ha⟩ := h n (by omega)
    refine ⟨l ++ [a], by simp [hl], fun i b hb => ?_⟩
    by_cases hi : i < l.length
    · rw [List.getElem?_append_left hi] at hb
      exact hq i b hb
    · rw [List.getElem?_append_right (by omega)] at hb
      by_cases e : i - l.length = 0
      · rw [e] at hb
        simp at hb
        subst hb
        rw [show i = n from by omega]
        exact ha
      · rw [List.getElem?_eq_none (by simp; omega)] at hb
        exact absurd hb (by simp)

theorem opens_slice {α : Type} {P : Program} {t e : TypeId} {d : Kd α} {F : α → Prop} {q : Nat} (ht : P.underlying t = some (.slice e)) (hc : P.cellsOf t = 1) (h : Opens P e d F) :
    Opens P t (Kd.slice q d) (fun l => l.length ≤ 1048576 ∧ ∀ x ∈ l, F x) := by
  refine ⟨hc.symm, fun enc w base spare held fuel cs x hx hw => ?_⟩
  rcases DataW.trod_slice ht hx with ⟨rfl, rfl⟩ | ⟨a, len, cap, elems, rest, n, rfl, rfl, rfl, _, hl, hm, hlen, hel, _, _⟩
  · exact ⟨[], ⟨none, 0, rfl, Nat.le_refl _, rfl, by simp, fun h => absurd h (by simp)⟩, by simp, fun x hx => by simp at hx⟩
  · simp only [Rows.uptoBulk] at hw
    have hm' : cap ≤ 9223372036854775807 := hm
    have hlb := bulk_length (elems.map (·.1))
    rw [List.length_map] at hlb
    have hE : ∀ i, i < len → ∃ a0 : α, F a0 ∧ ∃ c, c.length = d.sz ∧ d.K w a0 c ∧ ∀ j u, c[j]? = some u → w.cell? (a.add (i * d.sz + j)) = some u := by
      intro i hi
      have h1 := hel i hi
      rw [List.getElem?_eq_getElem (by omega)] at h1
      obtain ⟨c, hcs, htr⟩ := Option.bind_eq_some_iff.1 h1
      obtain ⟨_, hcl, hcell⟩ := World.cells?_some hcs
      obtain ⟨a0, hK, hF⟩ := h.2 enc w base spare held n c _ htr (by
        have := bulk_mem (List.mem_map.2 ⟨elems[i], List.getElem_mem (by omega), rfl⟩ : (elems[i]).1 ∈ elems.map (·.1))
        omega)
      refine ⟨a0, hF, c, by rw [hcl, h.1], hK, fun j u hj => ?_⟩
      have hjl : j < c.length := (List.getElem?_eq_some_iff.1 hj).1
      have hj2 := hcell j (by omega)
      rw [hj, ← h.1] at hj2
      rw [← hj2, Go.Addr.add_add]
    obtain ⟨l, hll, hq⟩ := list_of len hE
    refine ⟨l, ⟨some a, cap, by rw [hll], by omega, hll ▸ rfl, by omega, fun _ => ⟨a, rfl, fun j p hj => (hq j p hj).2⟩⟩, by omega, fun x hx => ?_⟩
    obtain ⟨i, hi⟩ := List.mem_iff_getElem?.1 hx
    exact (hq i x hi).1

/-- A law's argument. -/
theorem opens_arg {α : Type} {P : Program} {t : TypeId} {d : Kd α} {F : α → Prop} (O : Opens P t d F) {H : Type} {enc : TypeId × Value → H} {W : World} {base : Nat} {spare : Nat → Bool} {held : Bool} {v : Value} {x : DataW H} {ps : List MemPlace}
    {ds : List (DataW H)} (hsz : Rows.uptoBulkAll (x :: ds) ≤ 1048576) (h : DataW.Trod enc P W base spare held t v x ps) : ∃ a, d.K W a v.cells.toList ∧ F a := by
  obtain ⟨fuel, hf⟩ := h
  exact O.2 enc W base spare held fuel _ _ hf (Nat.le_trans (bulk_one _ _) hsz)

theorem agg_of {v : Value} {cs : Array Value} {l : List Value} (hv : v = .agg cs) (hl : v.cells.toList = l) : v = .agg l.toArray := by
  subst hv
  simp [Value.cells] at hl
  rw [← hl]

end Go.Proofs.YtfkbpjeocljflaaDoor.Open
