/-
  read: its map of closures, the closure that the word names.
-/
import Derived.Test.YtfkbpjeocljflaaDoorRead2
import Derived.Test.YtfkbpjeocljflaaDoorReadIdx
import Derived.Maps.OwnIn
namespace Go.Proofs.YtfkbpjeocljflaaDoor
open Go Go.RowKit Go.Lib Go.MapKept Go.Proofs.YtfkbpjeocljflaaDoor.PTableText Go.Proofs.YtfkbpjeocljflaaDoorW.PrintWords Go.Proofs.YtfkbpjeocljflaaDoorW.PrintLast Go.Proofs.YtfkbpjeocljflaaDoorW.PrintMore
set_option linter.unusedVariables false
set_option linter.unusedSimpArgs false

theorem read4_calls (B sb wb pb c : Nat) (A : Option Addr) (S : Sch) (ws : List ByteArray) (w : World) (HW : w.heap[wb]? = some (.cells #[.slice A ws.length c] 48 (0, 0))) (HP : w.heap[pb]? = some (.cells #[.pointer (some ⟨sb, 0, none⟩)] 52 (0, 0)))
    (u : Bool) (R : Ending → World → Prop) (h : Calls Tryd.prog 39 #[.pointer (some ⟨sb, 0, none⟩), .slice A ws.length c, .bool u] w R) (hR : ∀ e w', R e w' → e = .returned (.tuple #[]) ∨ ∃ ch, e = .panicked ch) :
    Calls Tryd.prog (if u then 40 else 38) #[.pointer (some ⟨pb, 0, none⟩), .pointer (some ⟨wb, 0, none⟩)] w R := by
  have c1 := (blk_cell HW 0).trans rfl
  have c2 := (blk_cell HP 0).trans rfl
  have H := Aside0.mk h
  have HRR := Aside0.mk hR
  clear HW HP h hR
  cases u with
  | false =>
    show Calls Tryd.prog 38 _ _ _
    go_enter Tryd.func38, Tryd.ntmps38
    go_wp2_with (fail)
    refine H.out.mono ?_
    intro e w1 hr
    rcases HRR.out e w1 hr with rfl | ⟨ch, rfl⟩
    · have HH := Aside0.mk hr
      clear hr
      go_wp2
      go_end0
      exact HH.out
    · have HH := Aside0.mk hr
      clear hr
      go_wp2
      exact ⟨rfl, HH.out⟩
  | true =>
    show Calls Tryd.prog 40 _ _ _
    go_enter Tryd.func40, Tryd.ntmps40
    go_wp2_with (fail)
    refine H.out.mono ?_
    intro e w1 hr
    rcases HRR.out e w1 hr with rfl | ⟨ch, rfl⟩
    · have HH := Aside0.mk hr
      clear hr
      go_wp2
      go_end0
      exact HH.out
    · have HH := Aside0.mk hr
      clear hr
      go_wp2
      exact ⟨rfl, HH.out⟩
theorem StepPost.ends {B sb : Nat} {S : Sch} {r : Option Sch} {w : World} : ∀ e w', StepPost B sb S r w e w' → e = .returned (.tuple #[]) ∨ ∃ ch, e = .panicked ch := by
  intro e w' h
  cases r with
  | some T => exact .inl h.1
  | none => exact .inr ⟨_, h.1⟩
theorem readIdx_calls (B sb wb pb c : Nat) (u : Bool) (A : Option Addr) (S : Sch) (ws : List ByteArray) (w : World) (HW : w.heap[wb]? = some (.cells #[.slice A ws.length c] 48 (0, 0))) (HP : w.heap[pb]? = some (.cells #[.pointer (some ⟨sb, 0, none⟩)] 52 (0, 0)))
    (hC : Kd.string.C w A ws.length ws) (hcap : ws.length ≤ c) (hR : Rep B sb S w) (hws : ws.length ≤ 2000000) (hil : S.idxs.length ≤ 2000000) :
    Calls Tryd.prog (if u then 40 else 38) #[.pointer (some ⟨pb, 0, none⟩), .pointer (some ⟨wb, 0, none⟩)] w (StepPost B sb S (readIdx S ws u) w) := by
  refine read4_calls B sb wb pb c A S ws w HW HP u _ ?_ StepPost.ends
  match ws, hC, hcap, hws with
  | [], _, _, _ =>
    refine (readIndex_few 0 c A (by omega) _ _ w).mono ?_
    rintro e w' ⟨rfl, rfl⟩
    exact StepPost.none hR (Fr.refl _ _ _)
  | [x], _, _, _ =>
    refine (readIndex_few 1 c A (by omega) _ _ w).mono ?_
    rintro e w' ⟨rfl, rfl⟩
    exact StepPost.none hR (Fr.refl _ _ _)
  | x :: y :: r, hC, hcap, hws =>
    exact readIndex_calls B sb c u A S x (y :: r) (by simp) w hC hcap hR (by simp at hws ⊢; omega) hil

/-! ### A map laid out of pairs -/
def entsFrom : List (ByteArray × Value) → Nat → List MapEntry
  | [], _ => []
  | x :: l, j => { key := .string x.1, val := x.2, born := j } :: entsFrom l (j + 1)
def entsOf (l : List (ByteArray × Value)) : Array MapEntry := (entsFrom l 0).toArray
theorem entsFrom_snoc (x : ByteArray × Value) : ∀ (l : List (ByteArray × Value)) (j : Nat), entsFrom l j ++ [{ key := .string x.1, val := x.2, born := j + l.length }] = entsFrom (l ++ [x]) j
  | [], j => rfl
  | y :: l, j => by
    simp only [entsFrom, List.cons_append, List.length_cons]
    rw [← entsFrom_snoc x l (j + 1)]
    congr 4
    omega
theorem ents_snoc (l : List (ByteArray × Value)) (x : ByteArray × Value) : (entsOf l).push { key := .string x.1, val := x.2, born := l.length } = entsOf (l ++ [x]) := by
  unfold entsOf
  rw [List.push_toArray]
  congr 1
  have := entsFrom_snoc x l 0
  rwa [Nat.zero_add] at this
theorem entsFrom_miss {s : ByteArray} : ∀ (l : List (ByteArray × Value)) (j i : Nat), (∀ x ∈ l, s ≠ x.1) → Instr.findNow .string (.string s) (entsFrom l j) i = some none
  | [], _, _, _ => rfl
  | x :: l, j, i, h => by
    simp only [entsFrom, Instr.findNow, same_miss (h x (List.mem_cons_self ..))]
    exact entsFrom_miss l (j + 1) (i + 1) (fun y hy => h y (List.mem_cons_of_mem _ hy))
theorem entsFrom_hit {s : ByteArray} {v : Value} : ∀ (a : List (ByteArray × Value)) (b : List (ByteArray × Value)) (j i : Nat), (∀ x ∈ a, s ≠ x.1) → Instr.findNow .string (.string s) (entsFrom (a ++ (s, v) :: b) j) i = some (some (i + a.length, v))
  | [], b, j, i, _ => by simp only [List.nil_append, entsFrom, Instr.findNow, same_hit]; rfl
  | x :: a, b, j, i, h => by
    simp only [List.cons_append, entsFrom, Instr.findNow, same_miss (h x (List.mem_cons_self ..))]
    rw [entsFrom_hit a b (j + 1) (i + 1) (fun y hy => h y (List.mem_cons_of_mem _ hy))]
    simp only [List.length_cons]
    congr 3
    omega
section
variable {w : World} {b : Nat} {l : List (ByteArray × Value)} {s : ByteArray} {v : Value}
theorem zeroFunc (w : World) : (zeroValue 1).run Tryd.prog w = .ok .nilFunc w := by kernel_rfl
theorem ents_put (hb : w.heap[b]? = some (.map (entsOf l) l.length)) (h : ∀ x ∈ l, s ≠ x.1) : (Instr.mapUpdate 79 (.map (some b)) (.string s) v).run Tryd.prog w = .ok () (w.putObj b (.map (entsOf (l ++ [(s, v)])) (l ++ [(s, v)]).length)) := by
  have := ents_snoc l (s, v)
  rw [run_put_new Tryd.underlying79 Tryd.underlying9 hb s v (entsFrom_miss l 0 0 h), this, List.length_append]
  rfl
theorem ents_look {c : Nat} {a r : List (ByteArray × Value)} (hb : w.heap[b]? = some (.map (entsOf (a ++ (s, v) :: r)) c)) (h : ∀ x ∈ a, s ≠ x.1) : (Instr.lookup 79 (.map (some b)) (.string s) true).run Tryd.prog w = .ok (.tuple #[v, .bool true]) w :=
  run_look_hit Tryd.underlying79 Tryd.underlying9 hb s true (entsFrom_hit a r 0 0 h)
theorem ents_none {c : Nat} (hb : w.heap[b]? = some (.map (entsOf l) c)) (h : ∀ x ∈ l, s ≠ x.1) : (Instr.lookup 79 (.map (some b)) (.string s) true).run Tryd.prog w = .ok (.tuple #[.nilFunc, .bool false]) w :=
  run_look_miss Tryd.underlying79 Tryd.underlying9 hb s true (zeroFunc w) (entsFrom_miss l 0 0 h)
end

theorem put_step {w : World} {b : Nat} {l : List (ByteArray × Value)} {s : ByteArray} {v : Value} (hb : w.heap[b]? = some (.map (entsOf l) l.length)) (h : ∀ x ∈ l, s ≠ x.1) :
    ∃ V, (Instr.mapUpdate 79 (.map (some b)) (.string s) v).run Tryd.prog w = .ok () V ∧ V.heap[b]? = some (.map (entsOf (l ++ [(s, v)])) (l ++ [(s, v)]).length) ∧ (∀ k, k ≠ b → V.heap[k]? = w.heap[k]?) ∧ Below b w V :=
  ⟨_, ents_put hb h, World.putObj_heap_same (blk_lt hb), fun k hk => World.putObj_heap_other hk, put_below (Below.refl _ _) (Nat.le_refl _)⟩

theorem Errs.below {w w1 : World} (h : Errs w) (hb : Below w.heap.size w w1) : Errs w1 := by
  have go : ∀ n cs, w.var? Tryd.prog n = some cs → w1.var? Tryd.prog n = some cs := fun n cs hv => by
    unfold World.var? at hv ⊢
    obtain ⟨g, hg, hm⟩ := Option.bind_eq_some_iff.1 hv
    rw [hg, Option.bind_some]
    cases ho : w.heap[g]? with
    | none => rw [ho] at hm; cases hm
    | some o => rw [hb.block g (blk_lt ho)]; exact hm
  obtain ⟨⟨a, b, h1⟩, c, d, h2⟩ := h
  exact ⟨⟨a, b, go _ _ h1⟩, c, d, go _ _ h2⟩
theorem StepPost.from {B sb : Nat} {S : Sch} {r : Option Sch} {w w1 : World} (hb : Below w.heap.size w w1) (hB : B ≤ w.heap.size) : ∀ e w', StepPost B sb S r w1 e w' → StepPost B sb S r w e w' := by
  intro e w' h
  cases r with
  | some T => exact ⟨h.1, h.2.1, (Fr.of_below hb hB).trans h.2.2⟩
  | none => exact ⟨h.1, h.2.1, (Fr.of_below hb hB).trans h.2.2⟩

def rdFn (k : Nat) (x y : Nat) : Value := .func (.func k) #[] #[.pointer (some ⟨x, 0, none⟩), .pointer (some ⟨y, 0, none⟩)]
def rdList (pb wb : Nat) : List (ByteArray × Value) := [(mkB tableL, rdFn 32 wb pb), (mkB columnL, rdFn 33 wb pb), (mkB keyL, rdFn 36 wb pb), (mkB indexL, rdFn 38 pb wb), (mkB uniqueL, rdFn 40 pb wb)]

set_option maxHeartbeats 4000000 in
set_option maxRecDepth 100000 in
theorem read_calls (B sb c : Nat) (A : Option Addr) (S : Sch) (word : ByteArray) (ws : List ByteArray) (w : World) (hC : Kd.string.C w A ws.length ws) (hcap : ws.length ≤ c) (hR : Rep B sb S w)
    (hk : ∀ i, i < 4 → w.cell? ⟨0, i, none⟩ = some (.string (kindsB.getD i ByteArray.empty))) (he : Errs w) (hws : ws.length ≤ 2000000) (hwl : ∀ x ∈ ws, x.size ≤ 2000000) (hcl : S.cols.length ≤ 2000000) (hil : S.idxs.length ≤ 2000000) :
    Calls Tryd.prog 17 #[.pointer (some ⟨sb, 0, none⟩), .string word, .slice A ws.length c] w (StepPost B sb S (readStep S word ws) w) := by
  have hmf : ∀ (fn : Fn) (first cap : Array Value) (w : World), (Instr.makeFunc fn first cap).run Tryd.prog w = .ok (.func fn first cap) w := fun _ _ _ _ => rfl
  have hmm := @run_makeMap Tryd.prog
  obtain ⟨W1, hW1⟩ : ∃ W1, W1 = ((w.alloc (.cells #[.pointer (some ⟨sb, 0, none⟩)] 52)).alloc (.cells #[.slice A ws.length c] 48)).alloc (.map #[] 0) := ⟨_, rfl⟩
  have p1 : W1.heap[w.heap.size]? = some (.cells #[.pointer (some ⟨sb, 0, none⟩)] 52 (0, 0)) := by rw [hW1]; exact (Below.heap_alloc _ _ _ (by simp; omega)).trans ((Below.heap_alloc _ _ _ (by simp)).trans (heap_alloc_new _ _))
  have q1 : W1.heap[w.heap.size + 1]? = some (.cells #[.slice A ws.length c] 48 (0, 0)) := by
    rw [hW1]
    refine (Below.heap_alloc _ _ _ (by simp)).trans ?_
    have := heap_alloc_new (w.alloc (.cells #[.pointer (some ⟨sb, 0, none⟩)] 52)) (.cells #[.slice A ws.length c] 48)
    rwa [World.size_alloc] at this
  have m1 : W1.heap[w.heap.size + 1 + 1]? = some (.map (entsOf []) ([] : List (ByteArray × Value)).length) := by
    rw [hW1]
    have := heap_alloc_new ((w.alloc (.cells #[.pointer (some ⟨sb, 0, none⟩)] 52)).alloc (.cells #[.slice A ws.length c] 48)) (.map #[] 0)
    rwa [World.size_alloc, World.size_alloc] at this
  have e1 : Below w.heap.size w W1 := by rw [hW1]; exact (((Below.refl _ _).alloc (Nat.le_refl _) _).alloc (by simp) _).alloc (by simp; omega) _
  obtain ⟨V1, u1, m2, k1, b1⟩ := put_step (s := mkB tableL) (v := rdFn 32 (w.heap.size + 1) w.heap.size) m1 (fun x hx => by cases hx)
  obtain ⟨V2, u2, m3, k2, b2⟩ := put_step (s := mkB columnL) (v := rdFn 33 (w.heap.size + 1) w.heap.size) m2 (by intro x hx; simp at hx; subst hx; exact ne_of_bytes (by decide))
  obtain ⟨V3, u3, m4, k3, b3⟩ := put_step (s := mkB keyL) (v := rdFn 36 (w.heap.size + 1) w.heap.size) m3 (by intro x hx; simp at hx; rcases hx with rfl | rfl <;> exact ne_of_bytes (by decide))
  obtain ⟨V4, u4, m5, k4, b4⟩ := put_step (s := mkB indexL) (v := rdFn 38 w.heap.size (w.heap.size + 1)) m4 (by intro x hx; simp at hx; rcases hx with rfl | rfl | rfl <;> exact ne_of_bytes (by decide))
  obtain ⟨V5, u5, m6, k5, b5⟩ := put_step (s := mkB uniqueL) (v := rdFn 40 w.heap.size (w.heap.size + 1)) m5 (by intro x hx; simp at hx; rcases hx with rfl | rfl | rfl | rfl <;> exact ne_of_bytes (by decide))
  have M6 := Aside0.mk (show V5.heap[w.heap.size + 1 + 1]? = some (.map (entsOf (rdList w.heap.size (w.heap.size + 1))) 5) from m6)
  have P6 := Aside0.mk ((k5 w.heap.size (by omega)).trans ((k4 w.heap.size (by omega)).trans ((k3 w.heap.size (by omega)).trans ((k2 w.heap.size (by omega)).trans ((k1 w.heap.size (by omega)).trans p1)))))
  have Q6 := Aside0.mk ((k5 (w.heap.size + 1) (by omega)).trans ((k4 (w.heap.size + 1) (by omega)).trans ((k3 (w.heap.size + 1) (by omega)).trans ((k2 (w.heap.size + 1) (by omega)).trans ((k1 (w.heap.size + 1) (by omega)).trans q1)))))
  have E6 := Aside0.mk (e1.trans (((((b1.trans b2).trans b3).trans b4).trans b5).mono (by omega)))
  have HC := Aside0.mk (Kd.C_below hC E6.out)
  have HRR := Aside0.mk (hR.below E6.out)
  have HB := Aside0.mk hR.2.1
  have HK := Aside0.mk (fun i hi => pw_cell_below E6.out (hk i hi))
  have HE := Aside0.mk (he.below E6.out)
  have HWL := Aside0.mk hwl
  rw [hW1] at u1
  clear hW1 p1 q1 m1 e1 m2 m3 m4 m5 m6 k1 k2 k3 k4 k5 b1 b2 b3 b4 b5 hC hR hk he hwl
  unfold rdFn mkB at u1 u2 u3 u4 u5
  unfold tableL at u1
  unfold columnL at u2
  unfold keyL at u3
  unfold indexL at u4
  unfold uniqueL at u5
  go_enter Tryd.func17, Tryd.ntmps17
  by_cases cc : word = mkB tableL
  · have hl := ents_look (s := mkB tableL) (a := []) M6.out (by intro x hx; cases hx)
    have hst := Aside0.mk (show readStep S word ws = readTable S ws by unfold readStep; rw [if_pos cc])
    rw [← cc] at hl
    have CC := Aside0.mk cc
    clear cc
    unfold rdFn at hl
    go_wp2_with (fail)
    refine (must_ok _).mono ?_
    rintro e w2 ⟨rfl, rfl⟩
    have hcall : Calls Tryd.prog 32 #[.pointer (some ⟨w.heap.size + 1, 0, none⟩), .pointer (some ⟨w.heap.size, 0, none⟩)] w2 (StepPost B sb S (readStep S word ws) w) := by
      rw [hst.out]; exact (read1_calls B sb (w.heap.size + 1) w.heap.size c A S ws w2 Q6.out P6.out HC.out HRR.out).mono (StepPost.from E6.out HB.out)
    have HCL := Aside0.mk hcall
    clear hcall hl hmm
    go_wp2_with (fail)
    refine HCL.out.mono ?_
    intro e w3 hr
    have HH := Aside0.mk hr
    rcases StepPost.ends e w3 hr with rfl | ⟨ch, rfl⟩
    · clear hr HCL
      go_wp2
      go_end0
      exact HH.out
    · clear hr HCL
      go_wp2
      exact ⟨rfl, HH.out⟩
  · have c1 := cc
    clear cc
    by_cases cc : word = mkB columnL
    · have hl := ents_look (s := mkB columnL) (a := [(mkB tableL, rdFn 32 (w.heap.size + 1) w.heap.size)]) M6.out (by intro x hx; simp at hx; subst hx; exact ne_of_bytes (by decide))
      have hst := Aside0.mk (show readStep S word ws = readColumn S ws by unfold readStep; rw [if_neg c1, if_pos cc])
      rw [← cc] at hl
      have CC := Aside0.mk cc
      clear cc
      unfold rdFn at hl
      go_wp2_with (fail)
      refine (must_ok _).mono ?_
      rintro e w2 ⟨rfl, rfl⟩
      have hcall : Calls Tryd.prog 33 #[.pointer (some ⟨w.heap.size + 1, 0, none⟩), .pointer (some ⟨w.heap.size, 0, none⟩)] w2 (StepPost B sb S (readStep S word ws) w) := by
        rw [hst.out]
        by_cases h2 : ws.length = 2
        · obtain ⟨a, b, rfl⟩ : ∃ a b, ws = [a, b] := by
            match ws, h2 with
            | [a, b], _ => exact ⟨a, b, rfl⟩
          exact (read2_calls B sb (w.heap.size + 1) w.heap.size c A S a b w2 Q6.out P6.out HC.out HRR.out HK.out (HWL.out b (by simp)) hcl).mono (StepPost.from E6.out HB.out)
        · have hr : readColumn S ws = none := by
            unfold readColumn
            match ws, h2 with
            | [], _ => rfl
            | [x], _ => rfl
            | [x, y], h => exact absurd rfl h
            | x :: y :: z :: r, _ => rfl
          rw [hr]
          refine (read2_few (w.heap.size + 1) w.heap.size A ws.length c h2 _ w2 Q6.out).mono ?_
          rintro e w' ⟨rfl, rfl⟩
          exact StepPost.from E6.out HB.out _ _ (StepPost.none HRR.out (Fr.refl _ _ _))
      have HCL := Aside0.mk hcall
      clear hcall hl hmm
      go_wp2_with (fail)
      refine HCL.out.mono ?_
      intro e w3 hr
      have HH := Aside0.mk hr
      rcases StepPost.ends e w3 hr with rfl | ⟨ch, rfl⟩
      · clear hr HCL
        go_wp2
        go_end0
        exact HH.out
      · clear hr HCL
        go_wp2
        exact ⟨rfl, HH.out⟩
    · have c2 := cc
      clear cc
      by_cases cc : word = mkB keyL
      · have hl := ents_look (s := mkB keyL) (a := [(mkB tableL, rdFn 32 (w.heap.size + 1) w.heap.size), (mkB columnL, rdFn 33 (w.heap.size + 1) w.heap.size)]) M6.out (by intro x hx; simp at hx; rcases hx with rfl | rfl <;> exact ne_of_bytes (by decide))
        have hst := Aside0.mk (show readStep S word ws = readKey S ws by unfold readStep; rw [if_neg c1, if_neg c2, if_pos cc])
        rw [← cc] at hl
        have CC := Aside0.mk cc
        clear cc
        unfold rdFn at hl
        go_wp2_with (fail)
        refine (must_ok _).mono ?_
        rintro e w2 ⟨rfl, rfl⟩
        have hcall : Calls Tryd.prog 36 #[.pointer (some ⟨w.heap.size + 1, 0, none⟩), .pointer (some ⟨w.heap.size, 0, none⟩)] w2 (StepPost B sb S (readStep S word ws) w) := by
          rw [hst.out]
          by_cases h2 : ws.length = 1
          · obtain ⟨a, rfl⟩ : ∃ a, ws = [a] := by
              match ws, h2 with
              | [a], _ => exact ⟨a, rfl⟩
            exact (read3_calls B sb (w.heap.size + 1) w.heap.size c A S a w2 Q6.out P6.out HC.out HRR.out HE.out (HWL.out a (by simp))).mono (StepPost.from E6.out HB.out)
          · have hr : readKey S ws = none := by
              unfold readKey
              match ws, h2 with
              | [], _ => rfl
              | [x], h => exact absurd rfl h
              | x :: y :: r, _ => rfl
            rw [hr]
            refine (read3_few (w.heap.size + 1) w.heap.size A ws.length c h2 _ w2 Q6.out).mono ?_
            rintro e w' ⟨rfl, rfl⟩
            exact StepPost.from E6.out HB.out _ _ (StepPost.none HRR.out (Fr.refl _ _ _))
        have HCL := Aside0.mk hcall
        clear hcall hl hmm
        go_wp2_with (fail)
        refine HCL.out.mono ?_
        intro e w3 hr
        have HH := Aside0.mk hr
        rcases StepPost.ends e w3 hr with rfl | ⟨ch, rfl⟩
        · clear hr HCL
          go_wp2
          go_end0
          exact HH.out
        · clear hr HCL
          go_wp2
          exact ⟨rfl, HH.out⟩
      · have c3 := cc
        clear cc
        by_cases cc : word = mkB indexL
        · have hl := ents_look (s := mkB indexL) (a := [(mkB tableL, rdFn 32 (w.heap.size + 1) w.heap.size), (mkB columnL, rdFn 33 (w.heap.size + 1) w.heap.size), (mkB keyL, rdFn 36 (w.heap.size + 1) w.heap.size)]) M6.out (by intro x hx; simp at hx; rcases hx with rfl | rfl | rfl <;> exact ne_of_bytes (by decide))
          have hst := Aside0.mk (show readStep S word ws = readIdx S ws false by unfold readStep; rw [if_neg c1, if_neg c2, if_neg c3, if_pos cc])
          rw [← cc] at hl
          have CC := Aside0.mk cc
          clear cc
          unfold rdFn at hl
          go_wp2_with (fail)
          refine (must_ok _).mono ?_
          rintro e w2 ⟨rfl, rfl⟩
          have hcall : Calls Tryd.prog 38 #[.pointer (some ⟨w.heap.size, 0, none⟩), .pointer (some ⟨w.heap.size + 1, 0, none⟩)] w2 (StepPost B sb S (readStep S word ws) w) := by
            rw [hst.out]; exact (readIdx_calls B sb (w.heap.size + 1) w.heap.size c false A S ws w2 Q6.out P6.out HC.out hcap HRR.out hws hil).mono (StepPost.from E6.out HB.out)
          have HCL := Aside0.mk hcall
          clear hcall hl hmm
          go_wp2_with (fail)
          refine HCL.out.mono ?_
          intro e w3 hr
          have HH := Aside0.mk hr
          rcases StepPost.ends e w3 hr with rfl | ⟨ch, rfl⟩
          · clear hr HCL
            go_wp2
            go_end0
            exact HH.out
          · clear hr HCL
            go_wp2
            exact ⟨rfl, HH.out⟩
        · have c4 := cc
          clear cc
          by_cases cc : word = mkB uniqueL
          · have hl := ents_look (s := mkB uniqueL) (a := [(mkB tableL, rdFn 32 (w.heap.size + 1) w.heap.size), (mkB columnL, rdFn 33 (w.heap.size + 1) w.heap.size), (mkB keyL, rdFn 36 (w.heap.size + 1) w.heap.size), (mkB indexL, rdFn 38 w.heap.size (w.heap.size + 1))]) M6.out (by intro x hx; simp at hx; rcases hx with rfl | rfl | rfl | rfl <;> exact ne_of_bytes (by decide))
            have hst := Aside0.mk (show readStep S word ws = readIdx S ws true by unfold readStep; rw [if_neg c1, if_neg c2, if_neg c3, if_neg c4, if_pos cc])
            rw [← cc] at hl
            have CC := Aside0.mk cc
            clear cc
            unfold rdFn at hl
            go_wp2_with (fail)
            refine (must_ok _).mono ?_
            rintro e w2 ⟨rfl, rfl⟩
            have hcall : Calls Tryd.prog 40 #[.pointer (some ⟨w.heap.size, 0, none⟩), .pointer (some ⟨w.heap.size + 1, 0, none⟩)] w2 (StepPost B sb S (readStep S word ws) w) := by
              rw [hst.out]; exact (readIdx_calls B sb (w.heap.size + 1) w.heap.size c true A S ws w2 Q6.out P6.out HC.out hcap HRR.out hws hil).mono (StepPost.from E6.out HB.out)
            have HCL := Aside0.mk hcall
            clear hcall hl hmm
            go_wp2_with (fail)
            refine HCL.out.mono ?_
            intro e w3 hr
            have HH := Aside0.mk hr
            rcases StepPost.ends e w3 hr with rfl | ⟨ch, rfl⟩
            · clear hr HCL
              go_wp2
              go_end0
              exact HH.out
            · clear hr HCL
              go_wp2
              exact ⟨rfl, HH.out⟩
          · have hl := ents_none (s := word) M6.out (by intro x hx; simp [rdList] at hx; rcases hx with rfl | rfl | rfl | rfl | rfl; exact c1; exact c2; exact c3; exact c4; exact cc)
            have hst := Aside0.mk (show readStep S word ws = none by unfold readStep; rw [if_neg c1, if_neg c2, if_neg c3, if_neg c4, if_neg cc])
            clear c1 c2 c3 c4 cc
            go_wp2_with (fail)
            refine (must_no _).mono ?_
            rintro e w2 ⟨rfl, rfl⟩
            go_wp2
            exact ⟨rfl, by rw [hst.out]; exact StepPost.from E6.out HB.out _ _ (StepPost.none HRR.out (Fr.refl _ _ _))⟩
end Go.Proofs.YtfkbpjeocljflaaDoor
