/-
  'seen := map[string]int{}; seen[s]++ ..': the map while no name came twice.
-/
import Derived.MapKept
import Derived.RangeFuncRecord
import Derived.Test.YtfkbpjeocljflaaDoorSchema
/-
  A map keyed by strings whose object lies open in the heap: the put of a new key, the look-up.
-/
namespace Go.Proofs.YtfkbpjeocljflaaDoor
open Go Go.MapKept
set_option linter.unusedVariables false
variable {P : Program} {w : World} {m kt et : TypeId} {b : Nat} {es : Array MapEntry} {clock : Nat}

theorem run_getObj_map (hb : w.heap[b]? = some (.map es clock)) : (getObj b).run P w = .ok (.map es clock) w := by simp [getObj, Sem.run, hb]
theorem run_setObj_map (o : Obj) (hb : w.heap[b]? = some (.map es clock)) : (setObj b o).run P w = .ok () (w.putObj b o) := by simp [setObj, Sem.run, hb, World.putObj]

theorem run_put_new (hm : P.underlying m = some (.map kt et)) (hk : P.underlying kt = some .string) (hb : w.heap[b]? = some (.map es clock)) (s : ByteArray) (v : Value)
    (hn : Instr.findNow .string (.string s) es.toList 0 = some none) :
    (Instr.mapUpdate m (.map (some b)) (.string s) v).run P w = .ok () (w.putObj b (.map (es.push { key := .string s, val := v, born := clock }) (clock + 1))) := by
  unfold Instr.mapUpdate
  simp only [Sem.run_bind, run_underlying hm, Result.andThen, run_getObj_map hb, run_checkKey (w := w) hk (k := .string s) trivial false 9999, run_findKey (w := w) hk hn, run_setObj_map _ hb]

theorem run_put_old (hm : P.underlying m = some (.map kt et)) (hk : P.underlying kt = some .string) (hb : w.heap[b]? = some (.map es clock)) (s : ByteArray) (v : Value) {i : Nat} {u : Value}
    (hn : Instr.findNow .string (.string s) es.toList 0 = some (some (i, u))) (hi : ((es[i]?).map (·.key)).getD (.string s) = .string s) :
    (Instr.mapUpdate m (.map (some b)) (.string s) v).run P w = .ok () (w.putObj b (.map (es.modify i fun e => { e with key := .string s, val := v }) clock)) := by
  unfold Instr.mapUpdate
  simp only [Sem.run_bind, run_underlying hm, Result.andThen, run_getObj_map hb, run_checkKey (w := w) hk (k := .string s) trivial false 9999, run_findKey (w := w) hk hn, hi, run_keyThatStays (P := P) (w := w) (d := .string) (k := .string s) trivial, run_setObj_map _ hb]

theorem run_look_hit (hm : P.underlying m = some (.map kt et)) (hk : P.underlying kt = some .string) (hb : w.heap[b]? = some (.map es clock)) (s : ByteArray) {i : Nat} {u : Value} (ok : Bool)
    (hn : Instr.findNow .string (.string s) es.toList 0 = some (some (i, u))) :
    (Instr.lookup m (.map (some b)) (.string s) ok).run P w = .ok (if ok then .tuple #[u, .bool true] else u) w := by
  unfold Instr.lookup
  simp only [Sem.run_bind, run_underlying hm, Result.andThen, run_getObj_map hb, run_checkKey (w := w) hk (k := .string s) trivial es.isEmpty 9999, run_findKey (w := w) hk hn, Sem.run_pure]

theorem run_look_miss (hm : P.underlying m = some (.map kt et)) (hk : P.underlying kt = some .string) (hb : w.heap[b]? = some (.map es clock)) (s : ByteArray) {z : Value} (ok : Bool)
    (hz : (zeroValue et).run P w = .ok z w) (hn : Instr.findNow .string (.string s) es.toList 0 = some none) :
    (Instr.lookup m (.map (some b)) (.string s) ok).run P w = .ok (if ok then .tuple #[z, .bool false] else z) w := by
  unfold Instr.lookup
  simp only [Sem.run_bind, run_underlying hm, Result.andThen, run_getObj_map hb, run_checkKey (w := w) hk (k := .string s) trivial es.isEmpty 9999, run_findKey (w := w) hk hn, hz, Sem.run_pure]
end Go.Proofs.YtfkbpjeocljflaaDoor

namespace Go.Proofs.YtfkbpjeocljflaaDoor
open Go Go.MapKept
set_option linter.unusedVariables false
set_option linter.unusedSimpArgs false

def seenFrom : List ByteArray → Nat → List MapEntry
  | [], _ => []
  | s :: l, j => { key := .string s, val := .int .i64 1, born := j } :: seenFrom l (j + 1)
def seenOf (l : List ByteArray) : Array MapEntry := (seenFrom l 0).toArray

theorem seenFrom_snoc (s : ByteArray) : ∀ (l : List ByteArray) (j : Nat), seenFrom l j ++ [{ key := .string s, val := .int .i64 1, born := j + l.length }] = seenFrom (l ++ [s]) j
  | [], j => rfl
  | x :: l, j => by
    simp only [seenFrom, List.cons_append, List.length_cons]
    rw [← seenFrom_snoc s l (j + 1)]
    congr 4
    omega
theorem seen_snoc (l : List ByteArray) (s : ByteArray) : (seenOf l).push { key := .string s, val := .int .i64 1, born := l.length } = seenOf (l ++ [s]) := by
  unfold seenOf
  rw [List.push_toArray]
  congr 1
  have := seenFrom_snoc s l 0
  rwa [Nat.zero_add] at this

theorem same_hit (s : ByteArray) : Instr.sameNow .string (.string s) (.string s) = some true := by
  obtain ⟨r, h1, h2⟩ := sameNow_of_keys (d := .string) (a := .string s) (b := .string s) trivial trivial
  rw [h1, h2.2 rfl]
theorem same_miss {s x : ByteArray} (h : s ≠ x) : Instr.sameNow .string (.string s) (.string x) = some false := by
  obtain ⟨r, h1, h2⟩ := sameNow_of_keys (d := .string) (a := .string s) (b := .string x) trivial trivial
  rw [h1]
  cases r with
  | false => rfl
  | true => exact absurd (Value.string.inj (h2.1 rfl)) h

theorem seenFrom_miss {s : ByteArray} : ∀ (l : List ByteArray) (j i : Nat), s ∉ l → Instr.findNow .string (.string s) (seenFrom l j) i = some none
  | [], _, _, _ => rfl
  | x :: l, j, i, h => by
    have hx : s ≠ x := fun e => h (e ▸ List.mem_cons_self ..)
    simp only [seenFrom, Instr.findNow, same_miss hx]
    exact seenFrom_miss l (j + 1) (i + 1) (fun hm => h (List.mem_cons_of_mem _ hm))
theorem seen_miss {l : List ByteArray} {s : ByteArray} (h : s ∉ l) : Instr.findNow .string (.string s) (seenOf l).toList 0 = some none := seenFrom_miss l 0 0 h

theorem seenFrom_hit {s : ByteArray} : ∀ (l : List ByteArray) (j i : Nat), s ∈ l → ∃ n, Instr.findNow .string (.string s) (seenFrom l j) i = some (some (i + n, .int .i64 1)) ∧ ((seenFrom l j)[n]?).map (·.key) = some (.string s) ∧
    ∀ v, Instr.findNow .string (.string s) ((seenFrom l j).modify n fun e => { e with key := .string s, val := v }) i = some (some (i + n, v))
  | [], _, _, h => by cases h
  | x :: l, j, i, h => by
    by_cases hx : s = x
    · subst hx
      exact ⟨0, by simp only [seenFrom, Instr.findNow, same_hit]; rfl, rfl, fun v => by simp [seenFrom, Instr.findNow, same_hit]⟩
    · have hm : s ∈ l := by
        rcases List.mem_cons.1 h with e | e
        · exact absurd e hx
        · exact e
      obtain ⟨n, h1, h2, h3⟩ := seenFrom_hit l (j + 1) (i + 1) hm
      have e : i + 1 + n = i + (n + 1) := by omega
      refine ⟨n + 1, ?_, by simpa [seenFrom] using h2, fun v => ?_⟩
      · simp only [seenFrom, Instr.findNow, same_miss hx]
        rw [h1, e]
      · have := h3 v
        simp only [seenFrom, List.modify_succ_cons, Instr.findNow, same_miss hx]
        rw [this, e]
theorem seen_hit {l : List ByteArray} {s : ByteArray} (h : s ∈ l) : ∃ n, Instr.findNow .string (.string s) (seenOf l).toList 0 = some (some (n, .int .i64 1)) ∧ ((seenOf l)[n]?).map (·.key) = some (.string s) ∧
    ∀ v, Instr.findNow .string (.string s) ((seenOf l).modify n fun e => { e with key := .string s, val := v }).toList 0 = some (some (n, v)) := by
  obtain ⟨n, h1, h2, h3⟩ := seenFrom_hit l 0 0 h
  rw [Nat.zero_add] at h1
  refine ⟨n, h1, by simpa [seenOf] using h2, fun v => ?_⟩
  have := h3 v
  rw [Nat.zero_add] at this
  unfold seenOf
  simpa using this

/-! ### The four operations, at type 58 (map[string]int) -/
section
variable {w : World} {b : Nat} {l : List ByteArray} {s : ByteArray} {clock : Nat}
theorem zeroInt (w : World) : (zeroValue 3).run Tryd.prog w = .ok (.int .i64 0) w := by kernel_rfl
theorem look_new (hb : w.heap[b]? = some (.map (seenOf l) clock)) (h : s ∉ l) : (Instr.lookup 58 (.map (some b)) (.string s) false).run Tryd.prog w = .ok (.int .i64 0) w :=
  run_look_miss Tryd.underlying58 Tryd.underlying9 hb s false (zeroInt w) (seen_miss h)
theorem look_old (hb : w.heap[b]? = some (.map (seenOf l) clock)) (h : s ∈ l) : (Instr.lookup 58 (.map (some b)) (.string s) false).run Tryd.prog w = .ok (.int .i64 1) w := by
  obtain ⟨n, h1, _, _⟩ := seen_hit h
  exact run_look_hit Tryd.underlying58 Tryd.underlying9 hb s false h1
theorem put_new (hb : w.heap[b]? = some (.map (seenOf l) l.length)) (h : s ∉ l) : (Instr.mapUpdate 58 (.map (some b)) (.string s) (.int .i64 1)).run Tryd.prog w = .ok () (w.putObj b (.map (seenOf (l ++ [s])) (l ++ [s]).length)) := by
  rw [run_put_new Tryd.underlying58 Tryd.underlying9 hb s _ (seen_miss h), seen_snoc, List.length_append]
  rfl
/-- A name that came before: the map then says 2 of it. -/
def Twice (b : Nat) (s : ByteArray) (o : Obj) : Prop := ∃ es clock n, o = .map es clock ∧ Instr.findNow .string (.string s) es.toList 0 = some (some (n, .int .i64 2))
theorem put_old (hb : w.heap[b]? = some (.map (seenOf l) l.length)) (h : s ∈ l) : ∃ o, Twice b s o ∧ (Instr.mapUpdate 58 (.map (some b)) (.string s) (.int .i64 2)).run Tryd.prog w = .ok () (w.putObj b o) := by
  obtain ⟨n, h1, h2, h3⟩ := seen_hit h
  exact ⟨_, ⟨_, _, n, rfl, h3 _⟩, run_put_old Tryd.underlying58 Tryd.underlying9 hb s _ h1 (by rw [h2]; rfl)⟩
theorem look_twice {o : Obj} (ho : Twice b s o) (hb : w.heap[b]? = some o) : (Instr.lookup 58 (.map (some b)) (.string s) false).run Tryd.prog w = .ok (.int .i64 2) w := by
  obtain ⟨es, clock, n, rfl, h1⟩ := ho
  exact run_look_hit Tryd.underlying58 Tryd.underlying9 hb s false h1
end
end Go.Proofs.YtfkbpjeocljflaaDoor
