/-
  The plain law of schemas, without program: which may be; what is written of one; what a line does to one; what is written is read again.
-/
import Derived.Test.YtfkbpjeocljflaaDoorText
import Derived.Test.YtfkbpjeocljflaaDoorPTableTextx0
namespace Go.Proofs.YtfkbpjeocljflaaDoor
open Go Go.Lib Go.Proofs.YtfkbpjeocljflaaDoor.PTableText
set_option linter.unusedVariables false
set_option linter.unusedSimpArgs false

abbrev Col := S56
abbrev Idx := S40
structure Sch where
  name : ByteArray
  cols : List Col
  key : Int
  idxs : List Idx
def Sch.zero : Sch := ⟨mkB [], [], 0, []⟩

/-! ### Which may be -/
/-- A small letter. -/
def letter (b : UInt8) : Bool := decide (97 ≤ b.toNat) && decide (b.toNat ≤ 122)
/-- A name of 1 to so many letters. -/
def nm (s : ByteArray) (most : Nat) : Bool := decide (0 < s.size) && decide (s.size ≤ most) && s.data.toList.all letter
abbrev noCol : Col := z56
abbrev noIdx : Idx := z40
def colOk (cols : List Col) (key : Int) (i : Nat) : Bool :=
  nm (cols.getD i noCol).f0 8 && !((cols.take i).any fun c => decide (c.f0 = (cols.getD i noCol).f0)) && decide (1 ≤ (cols.getD i noCol).f1) && decide ((cols.getD i noCol).f1 ≤ 3) && !((cols.getD i noCol).f2 && decide ((i : Int) < key))
def colsOk (cols : List Col) (key : Int) : Bool :=
  (List.range cols.length).all (colOk cols key) && decide (0 < cols.length) && decide (cols.length ≤ 8) && decide (0 < key) && decide (key ≤ cols.length)
def placeOk (l : List Int) (n : Nat) (i : Nat) : Bool := decide (0 ≤ l.getD i 0) && decide (l.getD i 0 < (n : Int)) && !((l.take i).contains (l.getD i 0))
def placesOk (l : List Int) (n : Nat) : Bool := decide (0 < l.length) && (List.range l.length).all (placeOk l n)
def idxOk (idxs : List Idx) (n : Nat) (i : Nat) : Bool :=
  nm (idxs.getD i noIdx).f0 8 && !((idxs.take i).any fun x => decide (x.f0 = (idxs.getD i noIdx).f0)) && placesOk (idxs.getD i noIdx).f1 n
def idxsOk (idxs : List Idx) (n : Nat) : Bool := decide (idxs.length ≤ 4) && (List.range idxs.length).all (idxOk idxs n)
def Sch.ok (S : Sch) : Bool := nm S.name 6 && colsOk S.cols S.key && idxsOk S.idxs S.cols.length

/-! ### What is written -/
def tableL : List UInt8 := [116, 97, 98, 108, 101]
def columnL : List UInt8 := [99, 111, 108, 117, 109, 110]
def keyL : List UInt8 := [107, 101, 121]
def indexL : List UInt8 := [105, 110, 100, 101, 120]
def uniqueL : List UInt8 := [117, 110, 105, 113, 117, 101]
def boolL : List UInt8 := [98, 111, 111, 108]
def intL : List UInt8 := [105, 110, 116]
def textL : List UInt8 := [116, 101, 120, 116]
def kindsB : List ByteArray := [ByteArray.empty, mkB boolL, mkB intL, mkB textL]
def kindT (k : Int) (b : Bool) : List UInt8 := (kindsB.getD k.toNat ByteArray.empty).data.toList ++ if b then [63] else []
def kindL (c : Col) : List UInt8 := kindT c.f1 c.f2
def lineL (ws : List (List UInt8)) : List UInt8 := join ws [32] ++ [10]
def colWords (c : Col) : List (List UInt8) := [columnL, c.f0.data.toList, kindL c]
def idxWords (cols : List Col) (x : Idx) : List (List UInt8) := (if x.f2 then uniqueL else indexL) :: x.f0.data.toList :: x.f1.map fun p => (cols.getD p.toNat noCol).f0.data.toList
def Sch.lineWords (S : Sch) : List (List (List UInt8)) := [[tableL, S.name.data.toList]] ++ S.cols.map colWords ++ [[keyL, itoa S.key]] ++ S.idxs.map (idxWords S.cols)
def Sch.textL (S : Sch) : List UInt8 := (S.lineWords.map lineL).flatten
def Sch.text (S : Sch) : ByteArray := mkB S.textL

/-! ### What a line does -/
def colAt (cols : List Col) (n : ByteArray) : Int := idxOfS (cols.map (·.f0)) n
def readCols (cols : List Col) : List ByteArray → Option (List Int)
  | [] => some []
  | w :: ws => if 0 ≤ colAt cols w then (readCols cols ws).map (colAt cols w :: ·) else none
def readIdx (S : Sch) (words : List ByteArray) (u : Bool) : Option Sch :=
  match words with
  | n :: c :: cs => (readCols S.cols (c :: cs)).map fun ps => { S with idxs := S.idxs ++ [⟨n, ps, u⟩] }
  | _ => none
def readTable (S : Sch) (words : List ByteArray) : Option Sch :=
  match words with
  | [n] => if S.name.size = 0 then some { S with name := n } else none
  | _ => none
def kindOf (k : ByteArray) : Int := idxOfS kindsB (mkB (trimSuffix k.data.toList [63]))
def readColumn (S : Sch) (words : List ByteArray) : Option Sch :=
  match words with
  | [n, k] => if 0 < kindOf k then some { S with cols := S.cols ++ [⟨n, kindOf k, hasSuffix k.data.toList [63]⟩] } else none
  | _ => none
def readKey (S : Sch) (words : List ByteArray) : Option Sch :=
  match words with
  | [n] => (match atoiAll n.data.toList with | .ok v => some { S with key := v } | _ => none)
  | _ => none
def readStep (S : Sch) (word : ByteArray) (words : List ByteArray) : Option Sch :=
  if word = mkB tableL then readTable S words
  else if word = mkB columnL then readColumn S words
  else if word = mkB keyL then readKey S words
  else if word = mkB indexL then readIdx S words false
  else if word = mkB uniqueL then readIdx S words true
  else none
def readLine (S : Sch) (line : ByteArray) : Option Sch := readStep S ((wordsOf line).headD ByteArray.empty) (wordsOf line).tail
def readLines : List ByteArray → Sch → Option Sch
  | [], S => some S
  | l :: ls, S => (readLine S l).bind (readLines ls)

theorem readLines_append : ∀ (a b : List ByteArray) (S : Sch), readLines (a ++ b) S = (readLines a S).bind (readLines b)
  | [], b, S => rfl
  | l :: a, b, S => by
    simp only [List.cons_append, readLines]
    cases readLine S l with
    | none => rfl
    | some T => exact readLines_append a b T
theorem readLines_snoc (a : List ByteArray) (l : ByteArray) (S : Sch) : readLines (a ++ [l]) S = (readLines a S).bind (fun T => readLine T l) := by
  rw [readLines_append]
  congr 1
  funext T
  simp only [readLines]
  cases readLine T l <;> rfl

/-! ### What is written is read again -/
theorem nm_letters {s : ByteArray} {most : Nat} (h : nm s most = true) : 0 < s.size ∧ s.size ≤ most ∧ ∀ b ∈ s.data.toList, letter b = true := by
  unfold nm at h
  simp only [Bool.and_eq_true, decide_eq_true_eq, List.all_eq_true] at h
  exact ⟨h.1.1, h.1.2, h.2⟩
theorem nm_not {s : ByteArray} {most : Nat} (h : nm s most = true) (c : UInt8) (hc : letter c = false) : c ∉ s.data.toList := fun hm => by
  have := (nm_letters h).2.2 c hm
  rw [hc] at this; cases this

theorem getD_mem {α : Type} {l : List α} {i : Nat} {d : α} (h : i < l.length) : l.getD i d ∈ l := by
  rw [List.getD_eq_getElem?_getD, List.getElem?_eq_getElem h]; exact List.getElem_mem h

structure Good (S : Sch) : Prop where
  name : nm S.name 6 = true
  colName : ∀ i, i < S.cols.length → nm (S.cols.getD i noCol).f0 8 = true
  colNew : ∀ i j, i < S.cols.length → j < i → (S.cols.getD j noCol).f0 ≠ (S.cols.getD i noCol).f0
  colKind : ∀ i, i < S.cols.length → 1 ≤ (S.cols.getD i noCol).f1 ∧ (S.cols.getD i noCol).f1 ≤ 3
  colMany : 0 < S.cols.length ∧ S.cols.length ≤ 8
  key : 0 < S.key ∧ S.key ≤ S.cols.length
  idxMany : S.idxs.length ≤ 4
  idxName : ∀ x ∈ S.idxs, nm x.f0 8 = true
  idxCols : ∀ x ∈ S.idxs, 0 < x.f1.length ∧ x.f1.length ≤ 8 ∧ ∀ p ∈ x.f1, 0 ≤ p ∧ p < S.cols.length

theorem nodup_le : ∀ (n : Nat) (l : List Int), l.Nodup → (∀ p ∈ l, 0 ≤ p ∧ p < n) → l.length ≤ n
  | 0, l, _, h => by
    cases l with
    | nil => exact Nat.le_refl _
    | cons p l => have := h p (List.mem_cons_self ..); omega
  | n + 1, l, hn, h => by
    by_cases hm : (n : Int) ∈ l
    · have ih := nodup_le n (l.erase n) (hn.erase _) (fun p hp => by
        have h2 := hn.mem_erase_iff.1 hp
        have h3 := h p h2.2
        have := h2.1
        omega)
      rw [List.length_erase_of_mem hm] at ih
      omega
    · have ih := nodup_le n l hn (fun p hp => by
        have h3 := h p hp
        have : p ≠ n := fun e => hm (e ▸ hp)
        omega)
      omega

theorem places_le {l : List Int} {n : Nat} (h : placesOk l n = true) : 0 < l.length ∧ l.length ≤ n ∧ ∀ p ∈ l, 0 ≤ p ∧ p < n := by
  unfold placesOk at h
  simp only [Bool.and_eq_true, decide_eq_true_eq, List.all_eq_true, List.mem_range] at h
  obtain ⟨h0, h1⟩ := h
  have hb : ∀ i, i < l.length → 0 ≤ l.getD i 0 ∧ l.getD i 0 < n ∧ l.getD i 0 ∉ l.take i := fun i hi => by
    have := h1 i hi
    unfold placeOk at this
    simp only [Bool.and_eq_true, decide_eq_true_eq, Bool.not_eq_true', List.contains_eq_mem, decide_eq_false_iff_not] at this
    exact ⟨this.1.1, this.1.2, this.2⟩
  have hm : ∀ p ∈ l, 0 ≤ p ∧ p < n := fun p hp => by
    obtain ⟨i, hi, rfl⟩ := List.mem_iff_getElem.1 hp
    have := hb i hi
    rw [List.getD_eq_getElem?_getD, List.getElem?_eq_getElem hi] at this
    exact ⟨this.1, this.2.1⟩
  refine ⟨h0, ?_, hm⟩
  have hnd : l.Nodup := by
    rw [List.nodup_iff_pairwise_ne, List.pairwise_iff_getElem]
    intro i j hi hj hij e
    have := (hb j hj).2.2
    rw [List.getD_eq_getElem?_getD, List.getElem?_eq_getElem hj] at this
    refine this ?_
    rw [Option.getD_some, ← e, List.mem_take_iff_getElem]
    exact ⟨i, by omega, rfl⟩
  exact nodup_le n l hnd hm

theorem good_of_ok {S : Sch} (h : S.ok = true) : Good S := by
  unfold Sch.ok colsOk idxsOk at h
  simp only [Bool.and_eq_true, decide_eq_true_eq, List.all_eq_true, List.mem_range] at h
  obtain ⟨⟨h1, ⟨⟨⟨⟨h2, h3⟩, h4⟩, h5⟩, h6⟩⟩, h7, h8⟩ := h
  have hc : ∀ i, i < S.cols.length → nm (S.cols.getD i noCol).f0 8 = true ∧ (∀ c ∈ S.cols.take i, c.f0 ≠ (S.cols.getD i noCol).f0) ∧ 1 ≤ (S.cols.getD i noCol).f1 ∧ (S.cols.getD i noCol).f1 ≤ 3 := fun i hi => by
    have := h2 i hi
    unfold colOk at this
    simp only [Bool.and_eq_true, decide_eq_true_eq, Bool.not_eq_true', List.any_eq_false] at this
    exact ⟨this.1.1.1.1, this.1.1.1.2, this.1.1.2, this.1.2⟩
  have hx : ∀ x ∈ S.idxs, nm x.f0 8 = true ∧ placesOk x.f1 S.cols.length = true := fun x hx => by
    obtain ⟨i, hi, rfl⟩ := List.mem_iff_getElem.1 hx
    have := h8 i hi
    unfold idxOk at this
    rw [List.getD_eq_getElem?_getD, List.getElem?_eq_getElem hi] at this
    simp only [Bool.and_eq_true, Option.getD_some] at this
    exact ⟨this.1.1, this.2⟩
  refine ⟨h1, fun i hi => (hc i hi).1, fun i j hi hj e => ?_, fun i hi => (hc i hi).2.2, ⟨h3, h4⟩, ⟨h5, h6⟩, h7, fun x h => (hx x h).1, fun x h => ?_⟩
  · refine (hc i hi).2.1 (S.cols.getD j noCol) ?_ e
    rw [List.mem_take_iff_getElem]
    refine ⟨j, by omega, ?_⟩
    rw [List.getD_eq_getElem?_getD, List.getElem?_eq_getElem (by omega)]; rfl
  · have := places_le (hx x h).2
    exact ⟨this.1, by omega, this.2.2⟩

theorem kind_back (c : Col) (h : 1 ≤ c.f1 ∧ c.f1 ≤ 3) : kindOf (mkB (kindL c)) = c.f1 ∧ hasSuffix (kindL c) [63] = c.f2 := by
  obtain ⟨n, k, b⟩ := c
  have hk : k = 1 ∨ k = 2 ∨ k = 3 := by simp only at h; omega
  rcases hk with rfl | rfl | rfl <;> cases b <;> (simp only [kindL]; exact ⟨by decide +kernel, by decide +kernel⟩)

theorem colAt_back {S : Sch} (g : Good S) {p : Int} (h0 : 0 ≤ p) (h1 : p < S.cols.length) : colAt S.cols (S.cols.getD p.toNat noCol).f0 = p := by
  unfold colAt
  have hl : p.toNat < S.cols.length := by omega
  have hg : ∀ j, j < S.cols.length → (S.cols.map (·.f0)).getD j ByteArray.empty = (S.cols.getD j noCol).f0 := fun j hj => by
    simp [List.getD_eq_getElem?_getD, List.getElem?_eq_getElem hj]
  have := idxOfS_hit (S.cols.map (·.f0)) S.cols.length p.toNat (S.cols.getD p.toNat noCol).f0 hl (by simp) (hg _ hl) (fun j hj e => g.colNew p.toNat j hl hj ((hg j (by omega)).symm.trans e))
  rw [List.take_of_length_le (by simp)] at this
  rw [this]; omega

theorem readCols_back {S : Sch} (g : Good S) : ∀ (l : List Int), (∀ p ∈ l, 0 ≤ p ∧ p < S.cols.length) → readCols S.cols (l.map fun p => (S.cols.getD p.toNat noCol).f0) = some l
  | [], _ => rfl
  | p :: l, h => by
    have hp := h p (List.mem_cons_self ..)
    have hb := colAt_back g hp.1 hp.2
    have ih := readCols_back g l (fun q hq => h q (List.mem_cons_of_mem _ hq))
    simp only [List.map_cons, readCols]
    rw [hb, if_pos hp.1, ih]
    rfl

theorem atoi_key (k : Int) (h0 : 0 < k) (h1 : k ≤ 8) : atoiAll (itoa k) = .ok k ∧ itoa k = [UInt8.ofNat (48 + k.toNat)] := by
  have hi : itoa k = [UInt8.ofNat (48 + k.toNat)] := by
    unfold itoa
    rw [if_neg (by omega), decDigits, dif_pos (by omega)]
  refine ⟨?_, hi⟩
  rw [hi]
  have hk : k = 1 ∨ k = 2 ∨ k = 3 ∨ k = 4 ∨ k = 5 ∨ k = 6 ∨ k = 7 ∨ k = 8 := by omega
  rcases hk with rfl | rfl | rfl | rfl | rfl | rfl | rfl | rfl <;> decide +kernel

theorem readLine_of (S : Sch) (w : List UInt8) (ws : List (List UInt8)) (hw : (32 : UInt8) ∉ w) (hws : ∀ x ∈ ws, (32 : UInt8) ∉ x) : readLine S (mkB (lineL (w :: ws))) = readStep S (mkB w) (ws.map mkB) := by
  unfold readLine lineL
  rw [words_line w ws hw hws]
  rfl

theorem mkB_inj {a b : List UInt8} (h : mkB a = mkB b) : a = b := by
  have := congrArg (fun s : ByteArray => s.data.toList) h
  exact this
theorem ne_of_bytes {a b : List UInt8} (h : (a == b) = false) : ¬ mkB a = mkB b := fun e => by rw [mkB_inj e] at h; simp at h

theorem kindL_not (c : Col) (x : UInt8) (hx : x = 32 ∨ x = 10) : x ∉ kindL c := by
  obtain ⟨n, k, b⟩ := c
  unfold kindL kindT
  have h2 : ∀ i : Nat, x ∉ (kindsB.getD i ByteArray.empty).data.toList := fun i => by
    rcases i with _ | _ | _ | _ | i
    · intro h; cases h
    · rcases hx with rfl | rfl <;> decide
    · rcases hx with rfl | rfl <;> decide
    · rcases hx with rfl | rfl <;> decide
    · intro h
      rw [show kindsB.getD (i + 1 + 1 + 1 + 1) ByteArray.empty = ByteArray.empty from rfl] at h
      cases h
  rw [List.mem_append]
  rintro (h | h)
  · exact h2 _ h
  · cases b
    · cases h
    · simp at h
      rcases hx with rfl | rfl <;> exact absurd h (by decide)

/-- The schema so far, the first n columns read. -/
theorem read_cols {S : Sch} (g : Good S) (T : Sch) : ∀ (cs : List Col), (∀ c ∈ cs, nm c.f0 8 = true ∧ 1 ≤ c.f1 ∧ c.f1 ≤ 3) → readLines ((cs.map colWords).map fun ws => mkB (lineL ws)) T = some { T with cols := T.cols ++ cs }
  | [], _ => by simp [readLines]
  | c :: cs, h => by
    have hc := h c (List.mem_cons_self ..)
    have hk := kind_back c hc.2
    have h1 : readLine T (mkB (lineL (colWords c))) = some { T with cols := T.cols ++ [c] } := by
      unfold colWords
      rw [readLine_of T _ _ (by decide) (by
        intro x hx
        simp only [List.mem_cons, List.not_mem_nil, or_false] at hx
        rcases hx with rfl | rfl
        · exact nm_not hc.1 32 (by decide)
        · exact kindL_not c 32 (.inl rfl))]
      unfold readStep
      rw [if_neg (ne_of_bytes (by decide)), if_pos rfl]
      simp only [List.map_cons, List.map_nil, readColumn, mkB_of]
      rw [mkB_data, hk.1, hk.2, if_pos (by omega)]
    simp only [List.map_cons, readLines]
    rw [h1, Option.bind_some, read_cols g _ cs (fun x hx => h x (List.mem_cons_of_mem _ hx))]
    simp

theorem read_idxs {S : Sch} (g : Good S) : ∀ (xs : List Idx) (T : Sch), T.cols = S.cols → (∀ x ∈ xs, nm x.f0 8 = true ∧ 0 < x.f1.length ∧ ∀ p ∈ x.f1, 0 ≤ p ∧ p < S.cols.length) →
    readLines ((xs.map (idxWords S.cols)).map fun ws => mkB (lineL ws)) T = some { T with idxs := T.idxs ++ xs }
  | [], T, _, _ => by simp [readLines]
  | x :: xs, T, hT, h => by
    have hc := h x (List.mem_cons_self ..)
    have hw : ∀ p ∈ x.f1, (32 : UInt8) ∉ (S.cols.getD p.toNat noCol).f0.data.toList := fun p hp => nm_not (g.colName p.toNat (by have := hc.2.2 p hp; omega)) 32 (by decide)
    have hb := readCols_back g x.f1 hc.2.2
    have h1 : readLine T (mkB (lineL (idxWords S.cols x))) = some { T with idxs := T.idxs ++ [x] } := by
      obtain ⟨n, l, u⟩ := x
      unfold idxWords
      rw [readLine_of T _ _ (by cases u; exact (by decide : (32 : UInt8) ∉ indexL); exact (by decide : (32 : UInt8) ∉ uniqueL)) (by
        intro y hy
        simp only [List.mem_cons, List.mem_map] at hy
        rcases hy with rfl | ⟨p, hp, rfl⟩
        · exact nm_not hc.1 32 (by decide)
        · exact hw p hp)]
      obtain ⟨p, l, rfl⟩ : ∃ p l', l = p :: l' := by
        cases l with
        | nil => have := hc.2.1; simp at this
        | cons p l => exact ⟨p, l, rfl⟩
      have e : ∀ u, readIdx T (List.map mkB (n.data.toList :: List.map (fun p => (S.cols.getD p.toNat noCol).f0.data.toList) (p :: l))) u = some { T with idxs := T.idxs ++ [⟨n, p :: l, u⟩] } := fun u => by
        simp only [List.map_cons, List.map_map, readIdx, Function.comp_def, mkB_of, hT]
        simp only [List.map_cons] at hb
        rw [hb]
        rfl
      unfold readStep
      cases u
      · simp only [Bool.false_eq_true, if_false]
        rw [if_neg (ne_of_bytes (by decide)), if_neg (ne_of_bytes (by decide)), if_neg (ne_of_bytes (by decide)), if_pos trivial]
        exact e false
      · simp only [if_true]
        rw [if_neg (ne_of_bytes (by decide)), if_neg (ne_of_bytes (by decide)), if_neg (ne_of_bytes (by decide)), if_neg (ne_of_bytes (by decide))]
        exact e true
    simp only [List.map_cons, readLines]
    rw [h1, Option.bind_some, read_idxs g xs _ (by exact hT) (fun y hy => h y (List.mem_cons_of_mem _ hy))]
    simp

theorem words_noNl {S : Sch} (g : Good S) : ∀ ws ∈ S.lineWords, ∀ w ∈ ws, (10 : UInt8) ∉ w := by
  intro ws hws w hw
  unfold Sch.lineWords at hws
  simp only [List.mem_append, List.mem_cons, List.not_mem_nil, or_false, List.mem_map] at hws
  rcases hws with ((rfl | ⟨c, hc, rfl⟩) | rfl) | ⟨x, hx, rfl⟩
  · simp only [List.mem_cons, List.not_mem_nil, or_false] at hw
    rcases hw with rfl | rfl
    · decide
    · exact nm_not g.name 10 (by decide)
  · obtain ⟨i, hi, rfl⟩ := List.mem_iff_getElem.1 hc
    have hn := g.colName i hi
    rw [List.getD_eq_getElem?_getD, List.getElem?_eq_getElem hi] at hn
    simp only [colWords, List.mem_cons, List.not_mem_nil, or_false] at hw
    rcases hw with rfl | rfl | rfl
    · decide
    · exact nm_not hn 10 (by decide)
    · exact kindL_not _ 10 (.inr rfl)
  · simp only [List.mem_cons, List.not_mem_nil, or_false] at hw
    rcases hw with rfl | rfl
    · decide
    · have hk := g.key
      have hm := g.colMany
      rw [(atoi_key S.key hk.1 (by omega)).2]
      have h8 : S.key = 1 ∨ S.key = 2 ∨ S.key = 3 ∨ S.key = 4 ∨ S.key = 5 ∨ S.key = 6 ∨ S.key = 7 ∨ S.key = 8 := by omega
      rcases h8 with e | e | e | e | e | e | e | e <;> rw [e] <;> decide
  · simp only [idxWords, List.mem_cons, List.mem_map] at hw
    rcases hw with rfl | rfl | ⟨p, hp, rfl⟩
    · cases x.f2 <;> decide
    · exact nm_not (g.idxName x hx) 10 (by decide)
    · have := (g.idxCols x hx).2.2 p hp
      exact nm_not (g.colName p.toNat (by omega)) 10 (by decide)

theorem join_not {c d : UInt8} (hcd : c ≠ d) : ∀ (w : List UInt8) (ws : List (List UInt8)), (∀ x ∈ w :: ws, c ∉ x) → c ∉ join (w :: ws) [d] := by
  intro w ws h
  rw [join_cons, List.mem_append]
  rintro (h1 | h1)
  · exact h w (List.mem_cons_self ..) h1
  · unfold joinTail at h1
    rw [List.mem_flatten] at h1
    obtain ⟨l, hl, hc⟩ := h1
    obtain ⟨x, hx, rfl⟩ := List.mem_map.1 hl
    simp only [List.mem_append, List.mem_cons, List.not_mem_nil, or_false] at hc
    rcases hc with hc | hc
    · exact hcd hc
    · exact h x (List.mem_cons_of_mem _ hx) hc

theorem lineWords_ne {S : Sch} : ∀ ws ∈ S.lineWords, ∃ w r, ws = w :: r := by
  intro ws hws
  unfold Sch.lineWords at hws
  simp only [List.mem_append, List.mem_cons, List.not_mem_nil, or_false, List.mem_map] at hws
  rcases hws with ((rfl | ⟨c, hc, rfl⟩) | rfl) | ⟨x, hx, rfl⟩
  all_goals exact ⟨_, _, rfl⟩

theorem lines_text {S : Sch} (g : Good S) (r : List UInt8) : linesB (mkB (S.textL ++ r)) = (S.lineWords.map fun ws => mkB (lineL ws)) ++ linesB (mkB r) := by
  have h := linesB_flat (S.lineWords.map fun ws => join ws [32]) r (by
    intro l hl
    obtain ⟨ws, hws, rfl⟩ := List.mem_map.1 hl
    obtain ⟨w, rr, rfl⟩ := lineWords_ne ws hws
    exact join_not (by decide) w rr (words_noNl g _ hws))
  simp only [List.map_map, Function.comp_def] at h
  exact h

theorem readLines_text {S : Sch} (g : Good S) : readLines (S.lineWords.map fun ws => mkB (lineL ws)) Sch.zero = some S := by
  have hk := g.key
  have hm := g.colMany
  have hcols : ∀ c ∈ S.cols, nm c.f0 8 = true ∧ 1 ≤ c.f1 ∧ c.f1 ≤ 3 := fun c hc => by
    obtain ⟨i, hi, rfl⟩ := List.mem_iff_getElem.1 hc
    have hn := g.colName i hi
    have hq := g.colKind i hi
    rw [List.getD_eq_getElem?_getD, List.getElem?_eq_getElem hi] at hn hq
    exact ⟨hn, hq⟩
  have ha := (atoi_key S.key hk.1 (by omega))
  unfold Sch.lineWords
  simp only [List.map_append, List.map_cons, List.map_nil]
  rw [readLines_append, readLines_append, readLines_append]
  have h1 : readLines [mkB (lineL [tableL, S.name.data.toList])] Sch.zero = some { Sch.zero with name := S.name } := by
    simp only [readLines]
    rw [readLine_of _ _ _ (by decide) (by
      intro x hx
      simp only [List.mem_cons, List.not_mem_nil, or_false] at hx
      subst hx
      exact nm_not g.name 32 (by decide))]
    unfold readStep
    rw [if_pos rfl]
    simp only [List.map_cons, List.map_nil, readTable, mkB_of]
    rfl
  rw [h1, Option.bind_some, read_cols g _ S.cols hcols, Option.bind_some]
  have h2 : ∀ T : Sch, readLines [mkB (lineL [keyL, itoa S.key])] T = some { T with key := S.key } := fun T => by
    simp only [readLines]
    rw [readLine_of _ _ _ (by decide) (by
      intro x hx
      simp only [List.mem_cons, List.not_mem_nil, or_false] at hx
      subst hx
      rw [ha.2]
      have h8 : S.key = 1 ∨ S.key = 2 ∨ S.key = 3 ∨ S.key = 4 ∨ S.key = 5 ∨ S.key = 6 ∨ S.key = 7 ∨ S.key = 8 := by omega
      rcases h8 with e | e | e | e | e | e | e | e <;> rw [e] <;> decide)]
    unfold readStep
    rw [if_neg (ne_of_bytes (by decide)), if_neg (ne_of_bytes (by decide)), if_pos rfl]
    simp only [List.map_cons, List.map_nil, readKey, mkB_data, ha.1]
    rfl
  rw [h2, Option.bind_some, read_idxs g S.idxs _ (by simp [Sch.zero]) (fun x hx => ⟨g.idxName x hx, (g.idxCols x hx).1, (g.idxCols x hx).2.2⟩)]
  simp [Sch.zero]

/-- What is written of a schema that may be is read again as that schema. -/
theorem read_text {S : Sch} (h : S.ok = true) : readLines (linesB S.text) Sch.zero = some S := by
  have g := good_of_ok h
  have := lines_text g []
  rw [List.append_nil, linesB_none, List.append_nil] at this
  unfold Sch.text
  rw [this]
  exact readLines_text g
/-- With one line end more it is none. -/
theorem read_text_more {S : Sch} (h : S.ok = true) : readLines (linesB (mkB (S.textL ++ [10]))) Sch.zero = none := by
  have g := good_of_ok h
  have hl : linesB (mkB [10]) = [mkB [10]] := by
    have := linesB_cons [] [] (by simp)
    rw [linesB_none] at this
    exact this
  rw [lines_text g [10], hl, readLines_append, readLines_text g, Option.bind_some]
  simp only [readLines, readLine]
  rw [words_none]
  rfl
end Go.Proofs.YtfkbpjeocljflaaDoor
