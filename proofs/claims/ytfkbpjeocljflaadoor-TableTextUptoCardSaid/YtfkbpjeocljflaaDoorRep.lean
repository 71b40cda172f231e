/-
  The schema that is being read: how it lies in memory; what a line's step leaves alone.
-/
import Derived.Test.YtfkbpjeocljflaaDoorWrite
import Derived.Test.YtfkbpjeocljflaaDoorRead1
namespace Go.Proofs.YtfkbpjeocljflaaDoor
open Go Go.RowKit Go.Lib Go.Proofs.YtfkbpjeocljflaaDoor.PTableText Go.Proofs.YtfkbpjeocljflaaDoorW.PrintWords Go.Proofs.YtfkbpjeocljflaaDoorW.PrintLast Go.Proofs.YtfkbpjeocljflaaDoorW.PrintMore
set_option linter.unusedVariables false
set_option linter.unusedSimpArgs false

/-- What a step leaves alone: the old world; every block but sb and the columns' and indexes' rows. -/
structure Fr (B sb : Nat) (W W' : World) : Prop where
  be : Below B W W'
  kept : ∀ k o, W.heap[k]? = some o → k ≠ sb → (∀ c fz, o ≠ .cells c 56 fz ∧ o ≠ .cells c 40 fz) → W'.heap[k]? = some o
theorem Fr.refl (B sb : Nat) (W : World) : Fr B sb W W := ⟨Below.refl _ _, fun _ _ h _ _ => h⟩
theorem Fr.trans {B sb : Nat} {a b c : World} (h : Fr B sb a b) (k : Fr B sb b c) : Fr B sb a c :=
  ⟨h.be.trans k.be, fun i o hi hs ht => k.kept i o (h.kept i o hi hs ht) hs ht⟩
theorem Fr.of_below {B sb : Nat} {W W1 : World} (hb : Below W.heap.size W W1) (hB : B ≤ W.heap.size) : Fr B sb W W1 :=
  ⟨hb.mono hB, fun k o hk _ _ => (hb.block k (blk_lt hk)).trans hk⟩
theorem Fr.setCell {B sb : Nat} (hB : B ≤ sb) (W : World) (j : Nat) (u : Value) : Fr B sb W (W.setCell ⟨sb, j, none⟩ u) :=
  ⟨(Below.refl _ _).setCell (p := ⟨sb, j, none⟩) hB u, fun k o hk hs _ => (Below.heap_setCell W ⟨sb, j, none⟩ u k hs).trans hk⟩
theorem Fr.drew {B sb : Nat} {W W1 : World} (h : Fr B sb W W1) : Fr B sb W W1.drew := ⟨h.be.drew, h.kept⟩
theorem Fr.grown {B sb : Nat} {W W1 : World} {v : Value} {t : Nat} (hg : W.grownBy W1 v.ownBlock) (hB : B ≤ W.heap.size) (hb : ∀ k, v.ownBlock = some k → B ≤ k) (ht : ∀ k, v.ownBlock = some k → ∃ cells, W.heap[k]? = some (.cells cells t (0, 0))) (h2 : t = 56 ∨ t = 40) : Fr B sb W W1 := by
  refine ⟨(Below.refl _ _).grown hg hB hb, fun k o hk hs hno => (hg.block k (blk_lt hk) (fun e => ?_)).trans hk⟩
  obtain ⟨cells, hc⟩ := ht k e.symm
  rw [hk] at hc
  injection hc with hc
  rcases h2 with rfl | rfl
  · exact (hno cells (0, 0)).1 hc
  · exact (hno cells (0, 0)).2 hc
/-- A cell of a kept block. -/
theorem Fr.block {B sb : Nat} {W W1 : World} (h : Fr B sb W W1) {k t : Nat} {cells : Array Value} (hk : W.heap[k]? = some (.cells cells t (0, 0))) (hs : k ≠ sb) (h1 : t ≠ 56) (h2 : t ≠ 40) : W1.heap[k]? = some (.cells cells t (0, 0)) :=
  h.kept k _ hk hs (fun c fz => ⟨fun e => by injection e with _ e; exact h1 e, fun e => by injection e with _ e; exact h2 e⟩)

/-- A schema in the block sb, its lists rows of the call's own. -/
def Rep (B sb : Nat) (S : Sch) (W : World) : Prop :=
  B ≤ sb ∧ B ≤ W.heap.size ∧ ∃ cv iv, W.heap[sb]? = some (.cells #[.string S.name, cv, .int .i64 S.key, iv] 25 (0, 0)) ∧ k56.R 56 W B (fun _ => True) cv S.cols ∧ k40.R 40 W B (fun _ => True) iv S.idxs
theorem Rep.below {B sb : Nat} {S : Sch} {W W1 : World} (h : Rep B sb S W) (hb : Below W.heap.size W W1) : Rep B sb S W1 := by
  obtain ⟨h0, h1, cv, iv, hs, hc, hi⟩ := h
  exact ⟨h0, Nat.le_trans h1 hb.size, cv, iv, (hb.block _ (blk_lt hs)).trans hs, Kd.R_below hc hb, Kd.R_below hi hb⟩
theorem Rep.drew {B sb : Nat} {S : Sch} {W : World} (h : Rep B sb S W) : Rep B sb S W.drew := h.below (below_drew (Below.refl _ _))
theorem Rep.name {B sb : Nat} {S : Sch} {W : World} (h : Rep B sb S W) (x : ByteArray) : Rep B sb { S with name := x } (W.setCell ⟨sb, 0, none⟩ (.string x)) := by
  obtain ⟨h0, h1, cv, iv, hs, hc, hi⟩ := h
  refine ⟨h0, by simpa using h1, cv, iv, blk_put (cs := #[.string S.name, cv, .int .i64 S.key, iv]) hs 0 _ rfl, Kd.R_set hc hs (by decide) 0 _, Kd.R_set hi hs (by decide) 0 _⟩
theorem Rep.keyed {B sb : Nat} {S : Sch} {W : World} (h : Rep B sb S W) (x : Int) : Rep B sb { S with key := x } (W.setCell ⟨sb, 2, none⟩ (.int .i64 x)) := by
  obtain ⟨h0, h1, cv, iv, hs, hc, hi⟩ := h
  refine ⟨h0, by simpa using h1, cv, iv, blk_put (cs := #[.string S.name, cv, .int .i64 S.key, iv]) hs 2 _ rfl, Kd.R_set hc hs (by decide) 2 _, Kd.R_set hi hs (by decide) 2 _⟩

/-- What a line's step comes to. -/
def StepPost (B sb : Nat) (S : Sch) (r : Option Sch) (w : World) (e : Ending) (w' : World) : Prop :=
  match r with
  | some T => e = .returned (.tuple #[]) ∧ Rep B sb T w' ∧ Fr B sb w w'
  | none => e = .panicked noneChain ∧ Rep B sb S w' ∧ Fr B sb w w'
theorem StepPost.some {B sb : Nat} {S T : Sch} {w w' : World} (h : Rep B sb T w') (hf : Fr B sb w w') : StepPost B sb S (some T) w (.returned (.tuple #[])) w' := ⟨rfl, h, hf⟩
theorem StepPost.none {B sb : Nat} {S : Sch} {w w' : World} (h : Rep B sb S w') (hf : Fr B sb w w') : StepPost B sb S none w (.panicked noneChain) w' := ⟨rfl, h, hf⟩

theorem read1_calls (B sb wb pb c : Nat) (A : Option Addr) (S : Sch) (ws : List ByteArray) (w : World) (HW : w.heap[wb]? = some (.cells #[.slice A ws.length c] 48 (0, 0))) (HP : w.heap[pb]? = some (.cells #[.pointer (some ⟨sb, 0, none⟩)] 52 (0, 0)))
    (hC : Kd.string.C w A ws.length ws) (hR : Rep B sb S w) : Calls Tryd.prog 32 #[.pointer (some ⟨wb, 0, none⟩), .pointer (some ⟨pb, 0, none⟩)] w (StepPost B sb S (readTable S ws) w) := by
  obtain ⟨h0, h1, cv, iv, hs, hc, hi⟩ := id hR
  by_cases hn : ws.length = 1
  · obtain ⟨x, rfl⟩ : ∃ x, ws = [x] := by
      match ws, hn with
      | [x], _ => exact ⟨x, rfl⟩
    obtain ⟨bk, o, hA, _, hcells⟩ := strings_at hC (by simp)
    by_cases hz : S.name.size = 0
    · have hne : S.name = ⟨#[]⟩ := by
        apply ext_data
        have : S.name.data.toList.length = 0 := by rw [← size_eq]; exact hz
        exact List.eq_nil_of_length_eq_zero this
      have hr : readTable S [x] = some { S with name := x } := by unfold readTable; simp [hz]
      rw [hr]
      rw [hne] at hs
      refine (read1_ok wb pb sb A 1 c x cv iv S.key w HW HP hs bk o hA (by have := hcells 0 x rfl; simpa using this)).mono ?_
      rintro e w' ⟨rfl, rfl⟩
      exact StepPost.some (hR.name x).drew (Fr.setCell h0 w 0 _).drew
    · have hr : readTable S [x] = none := by unfold readTable; simp [hz]
      rw [hr]
      refine (read1_named wb pb sb A c S.name ?_ cv iv S.key w HW HP hs).mono ?_
      · cases he : S.name.toList with
        | nil =>
          exfalso; apply hz; rw [size_eq, ← toList_data, he]; rfl
        | cons a l => rfl
      · rintro e w' ⟨rfl, rfl⟩
        exact StepPost.none hR (Fr.refl _ _ _)
  · have hr : readTable S ws = none := by
      unfold readTable
      match ws, hn with
      | [], _ => rfl
      | [x], h => exact absurd rfl h
      | x :: y :: r, _ => rfl
    rw [hr]
    refine (read1_many wb pb A ws.length c hn _ w HW).mono ?_
    rintro e w' ⟨rfl, rfl⟩
    exact StepPost.none hR (Fr.refl _ _ _)
end Go.Proofs.YtfkbpjeocljflaaDoor
