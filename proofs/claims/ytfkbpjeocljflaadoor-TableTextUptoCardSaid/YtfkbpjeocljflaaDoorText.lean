/-
  The plain law of a schema's text, without program: a text's lines, a line's words; what is written of a schema is read again as that schema.
-/
import Derived.Lib.SplitLaws
import Derived.Lib.IndexLaws
import Derived.Lib.AtoiAll
import Derived.Lib.ItoaNum
import Derived.Lib.Join
import Derived.Lib.SlicesS
import Derived.Lib.Split
namespace Go.Proofs.YtfkbpjeocljflaaDoor
open Go Go.Lib
set_option linter.unusedVariables false
set_option linter.unusedSimpArgs false

/-- A text of these bytes. -/
def mkB (l : List UInt8) : ByteArray := ⟨l.toArray⟩
theorem mkB_data (l : List UInt8) : (mkB l).data.toList = l := rfl
theorem mkB_size (l : List UInt8) : (mkB l).size = l.length := by rw [size_eq]; rfl
theorem mkB_of (s : ByteArray) : mkB s.data.toList = s := by
  cases s; simp [mkB]
theorem ext_data {a b : ByteArray} (h : a.data.toList = b.data.toList) : a = b := by
  rw [← mkB_of a, ← mkB_of b, h]

/-- The first line, with its end; what is behind it. -/
def headLine (s : ByteArray) : ByteArray := if 0 ≤ Lib.indexByte s.data.toList 10 then s.extract 0 ((Lib.indexByte s.data.toList 10).toNat + 1) else s
def tailLine (s : ByteArray) : ByteArray := if 0 ≤ Lib.indexByte s.data.toList 10 then s.extract ((Lib.indexByte s.data.toList 10).toNat + 1) s.size else ⟨#[]⟩
theorem tailLine_lt (s : ByteArray) (h : 0 < s.size) : (tailLine s).size < s.size := by
  unfold tailLine
  split
  · rw [ByteArray.size_extract]; omega
  · exact h
/-- All lines of a text. -/
noncomputable def linesB (s : ByteArray) : List ByteArray :=
  if h : 0 < s.size then headLine s :: linesB (tailLine s) else []
termination_by s.size
decreasing_by exact tailLine_lt s h
theorem linesB_pos {s : ByteArray} (h : 0 < s.size) : linesB s = headLine s :: linesB (tailLine s) := by
  rw [linesB.eq_1 s, dif_pos h]
theorem linesB_nil {s : ByteArray} (h : ¬ 0 < s.size) : linesB s = [] := by
  rw [linesB.eq_1 s, dif_neg h]

theorem indexByte_of (c : UInt8) : ∀ (l r : List UInt8), c ∉ l → indexByte (l ++ c :: r) c = l.length
  | [], r, _ => by simp [indexByte]
  | b :: l, r, h => by
    have hb : (b == c) = false := by rw [beq_eq_false_iff_ne]; intro e; exact h (by rw [e]; exact List.mem_cons_self ..)
    have ih := indexByte_of c l r (fun hm => h (List.mem_cons_of_mem _ hm))
    simp only [List.cons_append, indexByte, hb, Bool.false_eq_true, if_false, ih]
    rw [if_neg (by rw [beq_iff_eq]; omega)]
    simp

theorem linesB_cons (l r : List UInt8) (h : (10 : UInt8) ∉ l) : linesB (mkB (l ++ 10 :: r)) = mkB (l ++ [10]) :: linesB (mkB r) := by
  have hi : indexByte (mkB (l ++ 10 :: r)).data.toList 10 = l.length := indexByte_of 10 l r h
  have hp : 0 < (mkB (l ++ 10 :: r)).size := by rw [mkB_size]; simp; omega
  rw [linesB_pos hp]
  congr 1
  · unfold headLine
    rw [hi, if_pos (by omega)]
    apply ext_data
    rw [extract_data]
    simp only [mkB_data]
    simp [List.take_append]
    exact List.take_of_length_le (by omega)
  · congr 1
    unfold tailLine
    rw [hi, if_pos (by omega)]
    apply ext_data
    rw [extract_data, mkB_size]
    simp only [mkB_data]
    simp
    exact List.take_of_length_le (by omega)

theorem linesB_flat : ∀ (ls : List (List UInt8)) (r : List UInt8), (∀ l ∈ ls, (10 : UInt8) ∉ l) → linesB (mkB ((ls.map (· ++ [10])).flatten ++ r)) = ls.map (fun l => mkB (l ++ [10])) ++ linesB (mkB r)
  | [], r, _ => by simp
  | l :: ls, r, h => by
    have ih := linesB_flat ls r (fun x hx => h x (List.mem_cons_of_mem _ hx))
    simp only [List.map_cons, List.flatten_cons, List.append_assoc, List.cons_append, List.nil_append]
    rw [linesB_cons l _ (h l (List.mem_cons_self ..)), ih]

theorem linesB_none : linesB (mkB []) = [] := linesB_nil (by rw [mkB_size]; simp)

/-- A line's words. -/
def spaceB : ByteArray := mkB [32]
def unend (line : ByteArray) : ByteArray := mkB (trimSuffix line.data.toList [10])
def wordsOf (line : ByteArray) : List ByteArray := splitB spaceB 0 (countB (unend line) spaceB) (unend line)

theorem unend_line (l : List UInt8) : unend (mkB (l ++ [10])) = mkB l := by
  unfold unend trimSuffix hasSuffix
  rw [mkB_data, if_pos (by rw [List.isSuffixOf_iff_suffix]; exact List.suffix_append _ _)]
  simp

theorem index_of (c : UInt8) : ∀ (l r : List UInt8), c ∉ l → index (l ++ c :: r) [c] = l.length
  | [], r, _ => by simp [index, List.isPrefixOf]
  | b :: l, r, h => by
    have hb : (c == b) = false := by rw [beq_eq_false_iff_ne]; intro e; exact h (by rw [e]; exact List.mem_cons_self ..)
    have ih := index_of c l r (fun hm => h (List.mem_cons_of_mem _ hm))
    simp only [List.cons_append, index, List.isPrefixOf, hb, Bool.false_and, Bool.false_eq_true, if_false, ih]
    rw [if_neg (by rw [beq_iff_eq]; omega)]
    simp

theorem countB_of (l : List UInt8) : countB (mkB l) spaceB = l.count 32 := count_one 32 l

theorem split_join : ∀ (w : List UInt8) (ws : List (List UInt8)), (32 : UInt8) ∉ w → (∀ x ∈ ws, (32 : UInt8) ∉ x) →
    splitB spaceB 0 (countB (mkB (join (w :: ws) [32])) spaceB) (mkB (join (w :: ws) [32])) = mkB w :: ws.map mkB
  | w, [], hw, _ => by
    rw [join_one, countB_of, List.count_eq_zero.2 hw]
    rfl
  | w, x :: ws, hw, hws => by
    have ih := split_join x ws (hws x (List.mem_cons_self ..)) (fun y hy => hws y (List.mem_cons_of_mem _ hy))
    have hj : join (w :: x :: ws) [32] = w ++ 32 :: join (x :: ws) [32] := by
      rw [join_cons, join_cons]; simp [joinTail]
    rw [hj]
    have hi : indexB (mkB (w ++ 32 :: join (x :: ws) [32])) spaceB = (w.length : Int) := index_of 32 w _ hw
    have hc : countB (mkB (w ++ 32 :: join (x :: ws) [32])) spaceB = countB (mkB (join (x :: ws) [32])) spaceB + 1 := by
      rw [countB_of, countB_of, List.count_append, List.count_eq_zero.2 hw, List.count_cons]; simp
    have he : (mkB (w ++ 32 :: join (x :: ws) [32])).extract (w.length + spaceB.size) (mkB (w ++ 32 :: join (x :: ws) [32])).size = mkB (join (x :: ws) [32]) := by
      apply ext_data
      rw [extract_to_end, mkB_data, mkB_data]
      rw [show w.length + spaceB.size = (w ++ [32]).length by simp [spaceB, mkB_size]]
      rw [show w ++ 32 :: join (x :: ws) [32] = (w ++ [32]) ++ join (x :: ws) [32] by simp]
      exact List.drop_left ..
    have h0 : (mkB (w ++ 32 :: join (x :: ws) [32])).extract 0 (w.length + 0) = mkB w := by
      apply ext_data
      rw [extract_data]
      simp [mkB_data]
    rw [hc, splitB_hit spaceB 0 _ _ w.length hi, he, ih, h0]
    rfl

theorem words_line (w : List UInt8) (ws : List (List UInt8)) (hw : (32 : UInt8) ∉ w) (hws : ∀ x ∈ ws, (32 : UInt8) ∉ x) : wordsOf (mkB (join (w :: ws) [32] ++ [10])) = mkB w :: ws.map mkB := by
  unfold wordsOf
  rw [unend_line]
  exact split_join w ws hw hws
theorem words_none : wordsOf (mkB [10]) = [mkB []] := by
  have h := words_line [] [] (by simp) (by simp)
  rw [join_one] at h
  exact h
end Go.Proofs.YtfkbpjeocljflaaDoor
