/-
  The plain law, its bounds: how many lines and words a text has, how long they are; how many columns and indexes are read.
-/
import Derived.Test.YtfkbpjeocljflaaDoorSchema
namespace Go.Proofs.YtfkbpjeocljflaaDoor
open Go Go.Lib Go.Proofs.YtfkbpjeocljflaaDoor.PTableText
set_option linter.unusedVariables false
set_option linter.unusedSimpArgs false

theorem headLine_le (s : ByteArray) : (headLine s).size ≤ s.size := by
  unfold headLine
  split
  · rw [ByteArray.size_extract]; omega
  · exact Nat.le_refl _
theorem lines_bound : ∀ (n : Nat) (s : ByteArray), s.size ≤ n → (linesB s).length ≤ s.size ∧ ∀ x ∈ linesB s, x.size ≤ s.size
  | 0, s, h => by
    rw [linesB_nil (by omega)]
    exact ⟨Nat.zero_le _, fun x hx => by cases hx⟩
  | n + 1, s, h => by
    by_cases h0 : 0 < s.size
    · have ht := tailLine_lt s h0
      obtain ⟨h1, h2⟩ := lines_bound n (tailLine s) (by omega)
      rw [linesB_pos h0]
      refine ⟨by simp only [List.length_cons]; omega, fun x hx => ?_⟩
      rcases List.mem_cons.1 hx with rfl | hx
      · exact headLine_le s
      · have := h2 x hx; omega
    · rw [linesB_nil h0]
      exact ⟨Nat.zero_le _, fun x hx => by cases hx⟩
theorem pieces_bound (sep : ByteArray) (save : Nat) : ∀ (k : Nat) (s : ByteArray), ∀ y ∈ splitB sep save k s, y.size ≤ s.size
  | 0, s, y, hy => by
    have : y = s := by simpa [splitB] using hy
    rw [this]; exact Nat.le_refl _
  | k + 1, s, y, hy => by
    unfold splitB at hy
    split at hy
    · have : y = s := by simpa using hy
      rw [this]; exact Nat.le_refl _
    · rcases List.mem_cons.1 hy with rfl | hy
      · rw [ByteArray.size_extract]; omega
      · have := pieces_bound sep save k _ y hy
        rw [ByteArray.size_extract] at this
        omega
theorem unend_le (x : ByteArray) : (unend x).size ≤ x.size := by
  unfold unend trimSuffix
  rw [mkB_size]
  split
  · rw [List.length_take, ← size_eq]; omega
  · rw [← size_eq]; exact Nat.le_refl _
theorem words_len (x : ByteArray) : (wordsOf x).length = countB (unend x) spaceB + 1 := by
  unfold wordsOf
  exact splitB_all spaceB (by decide) 0 _ _ rfl
theorem words_bound (x : ByteArray) : 0 < (wordsOf x).length ∧ (wordsOf x).length ≤ x.size + 1 ∧ ∀ y ∈ wordsOf x, y.size ≤ x.size := by
  have h1 := words_len x
  have h2 := countB_le spaceB (by decide) (unend x).size (unend x) (Nat.le_refl _)
  have h3 := unend_le x
  refine ⟨by omega, by omega, fun y hy => ?_⟩
  have := pieces_bound spaceB 0 _ _ y hy
  omega
def Sch.many (S : Sch) : Nat := S.cols.length + S.idxs.length
theorem readIdx_many {S T : Sch} {ws : List ByteArray} {u : Bool} (h : readIdx S ws u = some T) : T.many ≤ S.many + 1 := by
  unfold readIdx at h
  split at h
  · obtain ⟨ps, _, rfl⟩ := Option.map_eq_some_iff.1 h
    simp [Sch.many]; omega
  · cases h
theorem readStep_many {S T : Sch} {w : ByteArray} {ws : List ByteArray} (h : readStep S w ws = some T) : T.many ≤ S.many + 1 := by
  unfold readStep at h
  split at h
  · unfold readTable at h
    split at h
    · split at h
      · injection h with h; subst h; simp [Sch.many]
      · cases h
    · cases h
  · split at h
    · unfold readColumn at h
      split at h
      · split at h
        · injection h with h; subst h; simp [Sch.many]; omega
        · cases h
      · cases h
    · split at h
      · unfold readKey at h
        split at h
        · split at h
          · injection h with h; subst h; simp [Sch.many]
          · cases h
        · cases h
      · split at h
        · exact readIdx_many h
        · split at h
          · exact readIdx_many h
          · cases h
theorem readLines_many : ∀ (ls : List ByteArray) (S T : Sch), readLines ls S = some T → T.many ≤ S.many + ls.length
  | [], S, T, h => by
    simp only [readLines] at h
    injection h with h
    subst h
    simp
  | l :: ls, S, T, h => by
    simp only [readLines] at h
    obtain ⟨U, hU, hT⟩ := Option.bind_eq_some_iff.1 h
    have h1 := readStep_many hU
    have h2 := readLines_many ls U T hT
    simp only [List.length_cons]
    omega

/-- What a text is read as. -/
noncomputable def parseP (t : ByteArray) : Option Sch := (readLines (linesB t) Sch.zero).bind fun S => if S.ok = true ∧ S.text = t then some S else none
theorem parseP_text {S : Sch} (h : S.ok = true) : parseP S.text = some S := by
  unfold parseP
  rw [read_text h, Option.bind_some, if_pos ⟨h, rfl⟩]
theorem parseP_more {S : Sch} (h : S.ok = true) : parseP (mkB (S.textL ++ [10])) = none := by
  unfold parseP
  rw [read_text_more h]; rfl
theorem parseP_some {t : ByteArray} {S : Sch} (h : parseP t = some S) : S.ok = true ∧ S.text = t := by
  unfold parseP at h
  obtain ⟨T, hT, h2⟩ := Option.bind_eq_some_iff.1 h
  split at h2
  · rename_i hc
    injection h2 with h2
    subst h2
    exact hc
  · cases h2
end Go.Proofs.YtfkbpjeocljflaaDoor
