/-
  Parse: reads a text, and says whether it is a schema's own.
-/
import Derived.RegionIn
import Derived.RangeFuncCalls
import Derived.Test.YtfkbpjeocljflaaDoorRep
import Derived.RecoverIn
import Derived.OwnWalkIn
import Derived.TacticsInMore
import Derived.LoopNIn
import Derived.LoopIn
import Derived.Test.YtfkbpjeocljflaaDoorRead
import Derived.Test.YtfkbpjeocljflaaDoorRange
import Derived.Test.YtfkbpjeocljflaaDoorBounds
import Derived.Test.YtfkbpjeocljflaaDoorValidAll
import Derived.Test.YtfkbpjeocljflaaDoorWrite
import Derived.Outline
/-
  A REGION THAT DRAWS ITS ORDER IN A ROUND: walked as outside of rounds, where it holds no defer statement.
-/
namespace Go.Proofs.YtfkbpjeocljflaaDoor
open Go
variable {n l : Nat} {P : Program} {ops : Array Oper} {Q : Exit → Act → World → Prop}

theorem oper_round {o : Oper} {a : Act} {w : World} {K : Act → World → Prop} (hnd : ∀ c, o.op ≠ .defer c) (h : o.wpIn Fence.wide n P a w K Q) : o.wpIn (Fence.wide.inRound l) n P a w K Q := by
  unfold Oper.wpIn at *
  refine ⟨h.1, ?_⟩
  have h2 := h.2
  rw [Oper.semAt_eq _ _ _ hnd] at h2 ⊢
  generalize (execOp a.eval o).run P w = r at *
  cases r with
  | ok x w' => cases x <;> exact h2
  | halt x w' => cases x <;> exact h2
theorem ops_round (hnd : ∀ (i : Nat) (o : Oper), ops[i]? = some o → ∀ c, o.op ≠ .defer c) : ∀ (lst : List Nat) (a : Act) (w : World), wpOpsIn Fence.wide n P ops Q lst a w → wpOpsIn (Fence.wide.inRound l) n P ops Q lst a w
  | [], a, w, h => h
  | i :: rest, a, w, h => by
    rw [wpOpsIn_cons] at h ⊢
    have h2 := wpOpIn_mono (fun a w hh => ops_round hnd rest a w hh) h
    unfold wpOpIn at h2 ⊢
    cases ho : ops[i]? with
    | none => rw [ho] at h2; exact h2
    | some o =>
      rw [ho] at h2
      simp only at h2 ⊢
      split
      · rename_i hw
        rw [if_pos hw] at h2
        exact oper_round (hnd i o ho) h2
      · rename_i hw
        rw [if_neg hw] at h2
        exact h2
theorem region_round {id : Nat} {a : Act} {w : World} (hm : P.follows .mixedOrders = true) (hnd : ∀ (i : Nat) (o : Oper), ops[i]? = some o → ∀ c, o.op ≠ .defer c)
    (h : wpAnyIn Fence.wide n P .any ops Q ops.size (Array.replicate ops.size false) a w.drew) : (Code.region id ops true).wpIn (Fence.wide.inRound l) n P Q a w :=
  wpIn_region_draw fun t => by
    simp only [Region.schedule, hm, Bool.true_or, if_true]
    exact ops_round hnd _ _ _ (wpAnyIn_sound ops.size t _ a _ h)
end Go.Proofs.YtfkbpjeocljflaaDoor

/-
  How Parse leaves: the block of its rounds' deferred calls shut, its own deferred call made.
-/
/-
  Parse's deferred call.
-/
namespace Go.Proofs.YtfkbpjeocljflaaDoor
open Go Go.RowKit Go.Lib Go.Proofs.YtfkbpjeocljflaaDoor.PTableText Go.Proofs.YtfkbpjeocljflaaDoorW.PrintWords Go.Proofs.YtfkbpjeocljflaaDoorW.PrintLast Go.Proofs.YtfkbpjeocljflaaDoorW.PrintMore
set_option linter.unusedVariables false
set_option linter.unusedSimpArgs false

def caughtChain : List PanicEntry := [{ v := .iface 43 (.agg #[]), recovered := true }]
def Caught (sb eb : Nat) (W W' : World) : Prop :=
  W'.heap[sb]? = some (.cells #[.string ⟨#[]⟩, .slice none 0 0, .int .i64 0, .slice none 0 0] 25 (0, 0)) ∧ W'.heap[eb]? = some (.cells #[.int .i64 260] 28 (0, 0)) ∧ ∀ B, B ≤ sb → B ≤ eb → Below B W W'

theorem idle_calls (n sb eb : Nat) (W : World) :
    CallsDIn Fence.wide n Tryd.prog 13 #[.pointer (some ⟨sb, 0, none⟩), .pointer (some ⟨eb, 0, none⟩)] .returning W fun e u' w' => u' = .returning ∧ e = .returned (.tuple #[]) ∧ w' = W := by
  refine callsDIn_of_wpSIn Tryd.func13 rfl trivial fun c₀ cs hu => ?_
  apply wpSIn_seq
  apply wpSIn_region
  simp [wpOpsSIn, go_sem, recoverD, hu, Tryd.ntmps13, Exit.thenS]
  refine wpSIn_of_wpIn rfl (wpIn_wide.2 ?_)
  simp only [Array.replicate_succ, Array.replicate_zero, List.push_toArray, List.append_toArray, List.nil_append, List.cons_append, List.setIfInBounds_toArray, List.set_cons_zero, List.set_cons_succ]
  have HU := Aside0.mk hu
  clear hu
  go_wp2
  refine ⟨rfl, .returning, by rw [← HU.out], .tuple #[], by simp [results, Tryd.results13, go_sem], rfl, rfl, rfl⟩

theorem assertNone (W : World) : (Instr.typeAssert (.iface 43 (.agg #[])) 20 43 true).run Tryd.prog W = .ok (.tuple #[.agg #[], .bool true]) W := by kernel_rfl
set_option maxHeartbeats 1000000 in
set_option maxRecDepth 100000 in
theorem catch_calls (n sb eb : Nat) (hne : sb ≠ eb) (W : World) (a b c d x : Value) (hs : W.heap[sb]? = some (.cells #[a, b, c, d] 25 (0, 0))) (he : W.heap[eb]? = some (.cells #[x] 28 (0, 0))) :
    CallsDIn Fence.wide n Tryd.prog 13 #[.pointer (some ⟨sb, 0, none⟩), .pointer (some ⟨eb, 0, none⟩)] (.panicking noneChain) W fun e u' w' => u' = .panicking caughtChain ∧ e = .returned (.tuple #[]) ∧ Caught sb eb W w' := by
  have hs1 := (Below.heap_alloc W (.cells #[] 43) sb (blk_lt hs)).trans hs
  have he1 := (Below.heap_alloc W (.cells #[] 43) eb (blk_lt he)).trans he
  have s0 := (blk_cell hs1 0).trans rfl
  have s1 := (blk_cell hs1 1).trans rfl
  have s2 := (blk_cell hs1 2).trans rfl
  have s3 := (blk_cell hs1 3).trans rfl
  have f0 := blk_frozen hs1 0
  have f1 := blk_frozen hs1 1
  have f2 := blk_frozen hs1 2
  have f3 := blk_frozen hs1 3
  have e0 := (blk_cell he1 0).trans rfl
  have g0 := blk_frozen he1 0
  have hne' : eb ≠ sb := fun e => hne e.symm
  have HS1 := Aside0.mk hs1
  have HE1 := Aside0.mk he1
  clear hs1 he1
  have HS := Aside0.mk hs
  have HE := Aside0.mk he
  have HN := Aside0.mk hne
  refine callsDIn_of_wpSIn Tryd.func13 rfl trivial fun c₀ cs hu => ?_
  apply wpSIn_seq
  apply wpSIn_region
  simp [wpOpsSIn, go_sem, recoverD, hu, Tryd.ntmps13, Exit.thenS, noneChain]
  refine wpSIn_of_wpIn rfl (wpIn_wide.2 ?_)
  simp only [Array.replicate_succ, Array.replicate_zero, List.push_toArray, List.append_toArray, List.nil_append, List.cons_append, List.setIfInBounds_toArray, List.set_cons_zero, List.set_cons_succ]
  have HU := Aside0.mk hu
  clear hu hs he
  have ha := assertNone W
  go_wp2
  refine ⟨rfl, .panicking caughtChain, rfl, .tuple #[], by simp [results, Tryd.results13, go_sem], rfl, rfl, ?_, ?_, ?_⟩
  · refine blk_far ?_ HN.out _
    exact blk_put (cs := #[.string ⟨#[]⟩, .slice none 0 0, .int .i64 0, d]) (blk_put (cs := #[.string ⟨#[]⟩, .slice none 0 0, c, d]) (blk_put (cs := #[.string ⟨#[]⟩, b, c, d]) (blk_put (cs := #[a, b, c, d]) HS1.out 0 _ rfl) 1 _ rfl) 2 _ rfl) 3 _ rfl
  · refine blk_put (cs := #[x]) ?_ 0 _ rfl
    exact blk_far (blk_far (blk_far (blk_far HE1.out (fun e => HN.out e.symm) _) (fun e => HN.out e.symm) _) (fun e => HN.out e.symm) _) (fun e => HN.out e.symm) _
  · intro B hB hB2
    have hz := blk_lt HS.out
    exact ((((((Below.refl _ _).alloc (by omega) _).setCell (p := ⟨sb, 0, none⟩) hB _).setCell (p := ⟨sb, 1, none⟩) hB _).setCell (p := ⟨sb, 2, none⟩) hB _).setCell (p := ⟨sb, 3, none⟩) hB _).setCell (p := ⟨eb, 0, none⟩) hB2 _
end Go.Proofs.YtfkbpjeocljflaaDoor

namespace Go.Proofs.YtfkbpjeocljflaaDoor
open Go Go.RowKit Go.Lib Go.Shelf Go.Proofs.YtfkbpjeocljflaaDoor.PTableText Go.Proofs.YtfkbpjeocljflaaDoorW.PrintWords Go.Proofs.YtfkbpjeocljflaaDoorW.PrintLast Go.Proofs.YtfkbpjeocljflaaDoorW.PrintMore
set_option linter.unusedVariables false
set_option linter.unusedSimpArgs false

def ParsePost (r : Option Sch) (w : World) (e : Ending) (w' : World) : Prop :=
  Below w.heap.size w w' ∧ match r with
  | some S => ∃ A c A' c', e = .returned (.tuple #[.agg #[.string S.name, .slice A S.cols.length c, .int .i64 S.key, .slice A' S.idxs.length c'], .int .i64 0]) ∧ S.cols.length ≤ c ∧ S.idxs.length ≤ c' ∧ Kd.C k56 w' A S.cols.length S.cols ∧ Kd.C k40 w' A' S.idxs.length S.idxs
  | none => e = .returned (.tuple #[.agg #[.string ⟨#[]⟩, .slice none 0 0, .int .i64 0, .slice none 0 0], .int .i64 260])

theorem results6 {w : World} {sb eb : Nat} {tmps : Array Value} {a b c d x : Value} (h2 : tmps[2]?.getD undef = .pointer (some ⟨sb, 0, none⟩)) (h3 : tmps[3]?.getD undef = .pointer (some ⟨eb, 0, none⟩))
    (hs : w.heap[sb]? = some (.cells #[a, b, c, d] 25 (0, 0))) (he : w.heap[eb]? = some (.cells #[x] 28 (0, 0))) : (results Tryd.f6 tmps).run Tryd.prog w = .ok (.tuple #[.agg #[a, b, c, d], x]) w := by
  have s0 := (blk_cell hs 0).trans rfl
  have s1 := (blk_cell hs 1).trans rfl
  have s2 := (blk_cell hs 2).trans rfl
  have s3 := (blk_cell hs 3).trans rfl
  have e0 := (blk_cell he 0).trans rfl
  simp [results, Tryd.results6, go_sem, h2, h3, s0, s1, s2, s3, e0]

theorem leaves_caught {w W : World} {D : Nat} {tmps : Array Value} {a b c d x : Value} (h2 : tmps[2]?.getD undef = .pointer (some ⟨w.heap.size, 0, none⟩)) (h3 : tmps[3]?.getD undef = .pointer (some ⟨w.heap.size + 1, 0, none⟩))
    (hs : W.heap[w.heap.size]? = some (.cells #[a, b, c, d] 25 (0, 0))) (he : W.heap[w.heap.size + 1]? = some (.cells #[x] 28 (0, 0))) (hb : Below w.heap.size w W) (hD : W.heap[D]? = some (.deferred (some []))) (hDz : w.heap.size + 2 ≤ D) :
    LeavesInM Fence.wide 5 Tryd.prog Tryd.f6 tmps (ParsePost none w) [{ target := .collected D, args := #[] }, { target := .fn (.func 13) #[.pointer (some ⟨w.heap.size, 0, none⟩), .pointer (some ⟨w.heap.size + 1, 0, none⟩)], args := #[] }] (.panicking noneChain) W := by
  refine ⟨by simp, .inl ⟨D, _, rfl, run_takeDeferred hD, ?_⟩⟩
  have hs1 : (W.putObj D (.deferred none)).heap[w.heap.size]? = some (.cells #[a, b, c, d] 25 (0, 0)) := (World.putObj_heap_other (by omega)).trans hs
  have he1 : (W.putObj D (.deferred none)).heap[w.heap.size + 1]? = some (.cells #[x] 28 (0, 0)) := (World.putObj_heap_other (by omega)).trans he
  refine ⟨by simp, .inr ⟨fun _ => by omega, .func 13, #[.pointer (some ⟨w.heap.size, 0, none⟩), .pointer (some ⟨w.heap.size + 1, 0, none⟩)], 13, #[.pointer (some ⟨w.heap.size, 0, none⟩), .pointer (some ⟨w.heap.size + 1, 0, none⟩)], rfl, by simp [invoke, go_sem, (enters_of Tryd.func13 (by kernel_rfl) rfl)], fun _ _ => trivial, ?_⟩⟩
  refine (catch_calls 4 w.heap.size (w.heap.size + 1) (by omega) _ a b c d x hs1 he1).mono ?_
  rintro e u' w2 ⟨rfl, rfl, h1, h4, h5⟩
  exact ⟨_, results6 h2 h3 h1 h4, (put_below hb (by omega)).trans (h5 _ (Nat.le_refl _) (by omega)), rfl⟩

theorem leaves_returned {w W : World} {D : Nat} {tmps : Array Value} {S : Sch} {A A' : Option Addr} {c c' : Nat} (h2 : tmps[2]?.getD undef = .pointer (some ⟨w.heap.size, 0, none⟩)) (h3 : tmps[3]?.getD undef = .pointer (some ⟨w.heap.size + 1, 0, none⟩))
    (hs : W.heap[w.heap.size]? = some (.cells #[.string S.name, .slice A S.cols.length c, .int .i64 S.key, .slice A' S.idxs.length c'] 25 (0, 0))) (he : W.heap[w.heap.size + 1]? = some (.cells #[.int .i64 0] 28 (0, 0))) (hb : Below w.heap.size w W)
    (hD : W.heap[D]? = some (.deferred (some []))) (hDz : w.heap.size + 2 ≤ D) (hcc : S.cols.length ≤ c) (hci : S.idxs.length ≤ c') (hC : Kd.C k56 W A S.cols.length S.cols) (hX : Kd.C k40 W A' S.idxs.length S.idxs) :
    LeavesInM Fence.wide 5 Tryd.prog Tryd.f6 tmps (ParsePost (some S) w) [{ target := .collected D, args := #[] }, { target := .fn (.func 13) #[.pointer (some ⟨w.heap.size, 0, none⟩), .pointer (some ⟨w.heap.size + 1, 0, none⟩)], args := #[] }] .returning W := by
  refine ⟨by simp, .inl ⟨D, _, rfl, run_takeDeferred hD, ?_⟩⟩
  have hs1 := (World.putObj_heap_other (o := .deferred none) (w := W) (show w.heap.size ≠ D by omega)).trans hs
  have he1 := (World.putObj_heap_other (o := .deferred none) (w := W) (show w.heap.size + 1 ≠ D by omega)).trans he
  refine ⟨by simp, .inr ⟨fun _ => by omega, .func 13, #[.pointer (some ⟨w.heap.size, 0, none⟩), .pointer (some ⟨w.heap.size + 1, 0, none⟩)], 13, #[.pointer (some ⟨w.heap.size, 0, none⟩), .pointer (some ⟨w.heap.size + 1, 0, none⟩)], rfl, by simp [invoke, go_sem, (enters_of Tryd.func13 (by kernel_rfl) rfl)], fun _ _ => trivial, ?_⟩⟩
  refine (idle_calls 4 w.heap.size (w.heap.size + 1) _).mono ?_
  rintro e u' w2 ⟨rfl, rfl, rfl⟩
  have hCC : ∀ {α : Type} {k : Kd α} {A : Option Addr} {n : Nat} {xs : List α}, (∀ x cs, k.K W x cs → k.K (W.putObj D (.deferred none)) x cs) → Kd.C k W A n xs → Kd.C k (W.putObj D (.deferred none)) A n xs := fun hK h => by
    refine ⟨h.1, h.2.1, fun hp => ?_⟩
    obtain ⟨ad, e, hc⟩ := h.2.2 hp
    refine ⟨ad, e, fun j p hj => ?_⟩
    obtain ⟨cc, h1, h2, h3⟩ := hc j p hj
    refine ⟨cc, h1, hK _ _ h2, fun i u hu => ?_⟩
    have := h3 i u hu
    rw [← this]
    unfold World.cell?
    have hne : (ad.add (j * _ + i)).block ≠ D := fun e => by
      unfold World.cell? at this
      rw [e, hD] at this
      cases this
    rw [World.putObj_heap_other hne]
  refine ⟨_, results6 h2 h3 hs1 he1, put_below hb (by omega), A, c, A', c', rfl, hcc, hci, hCC (fun x cs h => h) hC, hCC (fun x cs h => ?_) hX⟩
  obtain ⟨A1, c1, rfl, hl, hc⟩ := k40_open h
  exact k40_mk _ x hl (hCC (fun x cs h => h) hc)
end Go.Proofs.YtfkbpjeocljflaaDoor

namespace Go.Proofs.YtfkbpjeocljflaaDoor
open Go Go.RowKit Go.Lib Go.Shelf Go.Proofs.YtfkbpjeocljflaaDoor.PTableText Go.Proofs.YtfkbpjeocljflaaDoorW.PrintWords Go.Proofs.YtfkbpjeocljflaaDoorW.PrintLast Go.Proofs.YtfkbpjeocljflaaDoorW.PrintMore
attribute [local go_sem] Oper.semAt_some
set_option linter.unusedVariables false
set_option linter.unusedSimpArgs false

theorem lines_calls (s : ByteArray) (w : World) : Calls Tryd.prog 14 #[.string s] w fun e w' => e = .returned (.func (.func 28) #[] #[.pointer (some ⟨w.heap.size, 0, none⟩)]) ∧ w' = w.alloc (.cells #[.string s] 9) := by
  have hmf : ∀ (fn : Fn) (first cap : Array Value) (w : World), (Instr.makeFunc fn first cap).run Tryd.prog w = .ok (.func fn first cap) w := fun _ _ _ _ => rfl
  go_enter Tryd.func14, Tryd.ntmps14
  go_wp2
  go_ret
  exact ⟨rfl, rfl⟩

theorem Rep.grown {B sb : Nat} {S : Sch} {W W1 : World} {row : Option Nat} (h : Rep B sb S W) (hg : W.grownBy W1 row) (hr : ∀ r, row = some r → r ≠ sb ∧ ∀ c q fz, W.heap[r]? = some (.cells c q fz) → q ≠ 56 ∧ q ≠ 40 ∧ q ≠ 3) : Rep B sb S W1 := by
  obtain ⟨h0, h1, cv, iv, hs, hc, hi⟩ := h
  have hsz : W.heap.size ≤ W1.heap.size := hg.size
  refine ⟨h0, by omega, cv, iv, (hg.block _ (blk_lt hs) (fun e => (hr _ e.symm).1 rfl)).trans hs, ?_, ?_⟩
  · refine Kd.R_mono (Kd.R_grown (Kd.R_mono (Kd.R_bound hc) (ok' := fun k => some k ≠ row) ?_) hg (fun _ hk => hk)) (fun _ _ => trivial)
    rintro k ⟨_, _, _, q, hq, cells, hk⟩ e
    have := (hr k e.symm).2 _ _ _ hk
    simp [k56, Kd.iso, Kd.pair, Kd.string, Kd.int, Kd.bool, Kd.scalar] at hq
    exact this.1 hq
  · refine Kd.R_mono (Kd.R_grown (Kd.R_mono (Kd.R_bound hi) (ok' := fun k => some k ≠ row) ?_) hg (fun _ hk => hk)) (fun _ _ => trivial)
    rintro k ⟨_, _, _, q, hq, cells, hk⟩ e
    have := (hr k e.symm).2 _ _ _ hk
    simp [k40, Kd.iso, Kd.pair, Kd.string, Kd.int, Kd.bool, Kd.scalar, Kd.slice] at hq
    rcases hq with hq | hq
    · exact this.2.1 hq
    · exact this.2.2 hq

/-- How things stand between two lines. -/
structure Mid (w : World) (S : Sch) (W : World) : Prop where
  rep : Rep w.heap.size w.heap.size S W
  eb : W.heap[w.heap.size + 1]? = some (.cells #[.int .i64 0] 28 (0, 0))
  bs : ∃ cs, W.heap[w.heap.size + 2]? = some (.cells cs 9 (0, 0))
  be : Below w.heap.size w W
theorem Mid.grown {w A B : World} {S : Sch} {row : Option Nat} (h : Mid w S A) (hg : A.grownBy B row) (hr : ∀ r, row = some r → (r = w.heap.size + 2 ∧ TypedAs A B (w.heap.size + 2)) ∨ (w.heap.size + 3 ≤ r ∧ ∃ o : Obj, A.heap[r]? = some o ∧ o.isCells = false)) : Mid w S B := by
  obtain ⟨cs, hbs⟩ := h.bs
  have hz := blk_lt hbs
  refine ⟨h.rep.grown hg (fun r e => ?_), ?_, ?_, h.be.grown hg (by omega) (fun r e => ?_)⟩
  · rcases hr r e with ⟨rfl, _⟩ | ⟨h1, o, ho, hc⟩
    · refine ⟨by omega, fun c q fz hq => ?_⟩
      rw [hbs] at hq
      injection hq with hq
      injection hq with _ hq _
      subst hq
      exact ⟨by decide, by decide, by decide⟩
    · refine ⟨by omega, fun c q fz hq => ?_⟩
      rw [ho] at hq
      injection hq with hq
      subst hq
      simp [Obj.isCells] at hc
  · exact (hg.block _ (blk_lt h.eb) (fun e => by rcases hr _ e.symm with ⟨h1, _⟩ | ⟨h1, _⟩ <;> omega)).trans h.eb
  · by_cases hrow : row = some (w.heap.size + 2)
    · rcases hr _ hrow with ⟨_, ht⟩ | ⟨h1, _⟩
      · exact ht _ _ _ hbs
      · omega
    · exact ⟨cs, (hg.block _ hz (fun e => hrow e.symm)).trans hbs⟩
  · rcases hr r e with ⟨rfl, _⟩ | ⟨h1, _⟩ <;> omega
theorem Mid.step {w W W' : World} {S T : Sch} (h : Mid w S W) (hR : Rep w.heap.size w.heap.size T W') (hF : Fr w.heap.size w.heap.size W W') : Mid w T W' := by
  obtain ⟨cs, hbs⟩ := h.bs
  exact ⟨hR, hF.block h.eb (by omega) (by decide) (by decide), ⟨cs, hF.block hbs (by omega) (by decide) (by decide)⟩, h.be.trans hF.be⟩
theorem Fr.others {B sb : Nat} {W W' : World} (h : Fr B sb W W') (hs : ∃ c t fz, W.heap[sb]? = some (.cells c t fz)) : KeepsOthers W W' := by
  obtain ⟨c, t, fz, hs⟩ := hs
  refine ⟨h.be.size, fun k o hk ho => h.kept k o hk (fun e => ?_) (fun c fz => ⟨fun e => ?_, fun e => ?_⟩)⟩
  · subst e
    rw [hs] at hk
    injection hk with hk
    subst hk
    simp [Obj.isCells] at ho
  · subst e; simp [Obj.isCells] at ho
  · subst e; simp [Obj.isCells] at ho

theorem setCell_self {W : World} {b t : Nat} {fz : Nat × Nat} {cs : Array Value} (hk : W.heap[b]? = some (.cells cs t fz)) (i : Nat) {v : Value} (h : cs[i]? = some v) : W.setCell ⟨b, i, none⟩ v = W := by
  have hh : (W.setCell ⟨b, i, none⟩ v).heap = W.heap := by
    unfold World.setCell
    apply Array.ext_getElem?
    intro j
    rw [Array.getElem?_modify]
    by_cases hj : b = j
    · subst hj
      rw [if_pos rfl, hk]
      simp only [Option.map_some, Option.isSome_none, Bool.false_eq_true, if_false]
      congr 2
      apply Array.ext_getElem?
      intro j
      rw [Array.getElem?_setIfInBounds]
      by_cases hij : i = j
      · subst hij
        rw [if_pos rfl, h, if_pos (Array.getElem?_eq_some_iff.1 h).1]
      · rw [if_neg hij]
    · rw [if_neg hj]
  cases W
  unfold World.setCell at hh ⊢
  simp only at hh ⊢
  rw [hh]
theorem schema_self {W : World} {sb eb : Nat} {a b c d x : Value} (hs : W.heap[sb]? = some (.cells #[a, b, c, d] 25 (0, 0))) (he : W.heap[eb]? = some (.cells #[x] 28 (0, 0))) :
    (((((W.setCell ⟨sb, 0, none⟩ a).setCell ⟨sb, 1, none⟩ b).setCell ⟨sb, 2, none⟩ c).setCell ⟨sb, 3, none⟩ d).setCell ⟨eb, 0, none⟩ x) = W := by
  rw [setCell_self (v := a) hs 0 rfl, setCell_self (v := b) hs 1 rfl, setCell_self (v := c) hs 2 rfl, setCell_self (v := d) hs 3 rfl, setCell_self (v := x) he 0 rfl]

theorem bytes_of_toList {a b : ByteArray} (h : a.toList = b.toList) : a = b := by
  rw [ByteArray.toList_eq, ByteArray.toList_eq] at h
  exact ByteArray.ext (Array.ext' h)

theorem split_calls (x : ByteArray) (W : World) (m : Int) (hx : x.size ≤ 1100000) (hm : W.cell? ⟨1, 0, none⟩ = some (.int .i64 m)) :
    Calls Tryd.prog 15 #[.string (unend x), .string ⟨#[32]⟩] W fun e w' => e = .returned (.slice (some ⟨W.heap.size, 0, none⟩) (wordsOf x).length (wordsOf x).length) ∧ w' = W.alloc (.cells ((wordsOf x).map Value.string).toArray 9) := by
  have h := Tryd.strings_Split (unend x) spaceB m W (by have := unend_le x; omega) hm (by decide)
  rw [words_len]
  exact h

set_option maxHeartbeats 4000000 in
set_option maxRecDepth 100000 in
theorem parse_calls (text : ByteArray) (w : World) (m : Int) (hsz : text.size ≤ 1100000) (hL : Laid w) (he : Errs w) (hm : w.cell? ⟨1, 0, none⟩ = some (.int .i64 m)) :
    Calls Tryd.prog 6 #[.string text] w (ParsePost (parseP text) w) := by
  have hmf : ∀ (fn : Fn) (first cap : Array Value) (w : World), (Instr.makeFunc fn first cap).run Tryd.prog w = .ok (.func fn first cap) w := fun _ _ _ _ => rfl
  refine callsIn_wide.1 (callsIn_of_wpX_marks (n := 5) (f := 6) Tryd.func6 rfl ?_)
  simp only [Tryd.ntmps6, List.size_toArray, List.length_cons, List.length_nil, Nat.reduceAdd, Nat.reduceSub, Array.replicate_succ, Array.replicate_zero, List.push_toArray, List.append_toArray, List.nil_append, List.cons_append]
  refine wpX_seq (wpX_of_wp ?_)
  go_wp2
  refine wpX_seq (wpX_of_wp ?_)
  go_wp2
  refine wpX_seq (wpX_seq (wpX_of_wp ?_))
  obtain ⟨W2, hW2⟩ : ∃ W2, W2 = ((w.alloc (.cells #[.string ⟨#[]⟩, .slice none 0 0, .int .i64 0, .slice none 0 0] 25)).alloc (.cells #[.int .i64 0] 28)) := ⟨_, rfl⟩
  go_wp2_with (fail)
  rw [← hW2]
  refine (lines_calls text W2).mono ?_
  rintro e w1 ⟨rfl, hw1⟩
  have z2 : W2.heap.size = w.heap.size + 2 := by rw [hW2]; simp
  have h0 : Mid w Sch.zero w1 := by
    have s2 : W2.heap[w.heap.size]? = some (.cells #[.string ⟨#[]⟩, .slice none 0 0, .int .i64 0, .slice none 0 0] 25 (0, 0)) := by rw [hW2]; exact (Below.heap_alloc _ _ _ (by simp)).trans (heap_alloc_new _ _)
    have e2 : W2.heap[w.heap.size + 1]? = some (.cells #[.int .i64 0] 28 (0, 0)) := by
      rw [hW2]
      have := heap_alloc_new (w.alloc (.cells #[.string ⟨#[]⟩, .slice none 0 0, .int .i64 0, .slice none 0 0] 25)) (.cells #[.int .i64 0] 28)
      rwa [World.size_alloc] at this
    have b2 : Below w.heap.size w W2 := by rw [hW2]; exact ((Below.refl _ _).alloc (Nat.le_refl _) _).alloc (by simp) _
    rw [hw1]
    refine ⟨⟨Nat.le_refl _, by simp; omega, _, _, (Below.heap_alloc _ _ _ (by omega)).trans s2, Kd.R_nil _ _ _ _ _, Kd.R_nil _ _ _ _ _⟩, (Below.heap_alloc _ _ _ (by omega)).trans e2, ⟨#[.string text], ?_⟩, b2.alloc (by omega) _⟩
    rw [← z2]
    exact heap_alloc_new _ _
  have hB1 : w1.cell? ⟨w.heap.size + 2, 0, none⟩ = some (.string text) := by rw [hw1, ← z2]; exact (blk_cell (heap_alloc_new W2 (.cells #[.string text] 9)) 0).trans rfl
  have hf1 : w1.frozen? ⟨w.heap.size + 2, 0, none⟩ = false := by rw [hw1, ← z2]; exact blk_frozen (heap_alloc_new W2 (.cells #[.string text] 9)) 0
  have z1 : w1.heap.size = w.heap.size + 3 := by rw [hw1]; simp; omega
  rw [z2]
  clear hw1 hW2
  have H0 := Aside0.mk h0
  have HB1 := Aside0.mk hB1
  have HF1 := Aside0.mk hf1
  have Z1 := Aside0.mk z1
  have HL := Aside0.mk hL
  have HE := Aside0.mk he
  have HM := Aside0.mk hm
  have HSZ := Aside0.mk hsz
  clear h0 hB1 hf1 z1 z2 hL he hm hsz
  go_wp2
  refine wpX_block (wpX_rangeLines (fun s c w => Tryd.strings_IndexByte s c w) (by omega) (Bs := w.heap.size + 2) (by rfl) rfl text HB1.out HF1.out (by have := HSZ.out; omega) (by have := Z1.out; omega)
    (fun pre W => ∃ S, readLines pre Sch.zero = some S ∧ Mid w S W) (fun ch W => ch = noneChain ∧ readLines (linesB text) Sch.zero = none ∧ ∃ S, Mid w S W) ?hI ?h0 ?a1 ?hassign ?hbody ?hdone ?hpanic)
  case hassign =>
    intro l x W K hK
    simp only [show (#[9] : Array Nat).zip #[Value.string x] = #[(9, Value.string x)] by simp, List.foldl_toArray, List.foldl_cons, List.foldl_nil, List.setIfInBounds_toArray, List.set_cons_zero, List.set_cons_succ]
    gi_wp2
    exact hK
  case hI =>
    rintro pre A B row ⟨S, hS, hM⟩ hg hr
    exact ⟨S, hS, hM.grown hg (by rw [← Z1.out]; exact hr)⟩
  case h0 => exact ⟨_, rfl, H0.out⟩
  case hbody =>
    rintro l pre x W ⟨S, hS, hM⟩ ⟨rest, hrest⟩
    have hln := lines_bound _ text (Nat.le_refl _)
    rw [hrest] at hln
    have hxs : x.size ≤ text.size := hln.2 x (by simp)
    have hpl : pre.length ≤ text.size := by have := hln.1; simp at this; omega
    have hmany := readLines_many pre Sch.zero S hS
    have hwb := words_bound x
    have hrl : readLines (pre ++ [x]) Sch.zero = readLine S x := by rw [readLines_snoc, hS]; rfl
    have hall : readLine S x = none → readLines (linesB text) Sch.zero = none := fun h => by
      rw [hrest, readLines_append, hS, Option.bind_some]
      simp only [readLines]
      rw [h]; rfl
    obtain ⟨word, ws, hw⟩ : ∃ word ws, wordsOf x = word :: ws := by
      cases h : wordsOf x with
      | nil => rw [h] at hwb; simp at hwb
      | cons a b => exact ⟨a, b, rfl⟩
    have hts := Tryd.strings_TrimSuffix x ⟨#[10]⟩ W (by have := HSZ.out; omega)
    have hsp := split_calls x W m (by have := HSZ.out; omega) ((hM.be.cell (p := ⟨1, 0, none⟩) (World.block_lt_of_cell? _ _ HM.out)).trans HM.out)
    rw [hw] at hsp
    have hwz : ws.length ≤ x.size := by have := hwb.2.1; rw [hw] at this; simp at this; omega
    have hcap : ws.length + 1 ≤ 9223372036854775807 := by have := HSZ.out; omega
    have HTS := Aside0.mk hts
    have HSP := Aside0.mk hsp
    have HHM := Aside0.mk hM
    have HMA := Aside0.mk hmany
    have HRL := Aside0.mk hrl
    have HAL := Aside0.mk hall
    have HW := Aside0.mk hw
    have HWB := Aside0.mk hwb
    have HPL := Aside0.mk hpl
    have HXS := Aside0.mk hxs
    clear hts hsp hM hmany hrl hall hw hwb hpl hxs hln hrest hS
    gi_wp2_with (fail)
    refine ⟨trivial, (callsIn_wide.2 HTS.out).mono ?_⟩
    rintro e w2 ⟨rfl, rfl⟩
    gi_wp2_with (fail)
    refine ⟨trivial, (callsIn_wide.2 HSP.out).mono ?_⟩
    rintro e w3 ⟨rfl, hw3⟩
    have hCall : Kd.string.C w3 (some ⟨w2.heap.size, 0, none⟩) (word :: ws).length (word :: ws) := by rw [hw3]; exact C_lit w2 (word :: ws) hcap
    have hb3 : Below w2.heap.size w2 w3 := by rw [hw3]; exact alloc_below _ _
    have q0 : w3.cell? ⟨w2.heap.size, 0, none⟩ = some (.string word) := by
      obtain ⟨ad, e, hc⟩ := Kd.at_string hCall 0 (by omega) (by simp)
      injection e with e
      subst e
      simpa [Addr.add, rdOf] using hc
    have HB3 := Aside0.mk hb3
    have HCA := Aside0.mk hCall
    clear hw3 hb3 HTS HSP hCall
    have HMX := Aside0.mk (show S.cols.length ≤ 2000000 ∧ S.idxs.length ≤ 2000000 by have := HMA.out; have := HPL.out; have := HSZ.out; unfold Sch.many at *; simp [Sch.zero] at *; omega)
    have hread : ∀ (A : Option Addr) (c : Nat), ws.length ≤ c → Kd.string.C w3 A ws.length ws → Calls Tryd.prog 17 #[.pointer (some ⟨w.heap.size, 0, none⟩), .string word, .slice A ws.length c] w3.drew (StepPost w.heap.size w.heap.size S (readLine S x) w2) := fun A c hc hC => by
      have hd : Below w2.heap.size w2 w3.drew := HB3.out.drew
      have hwd : Below w.heap.size w w3.drew := HHM.out.be.trans (hd.mono HHM.out.be.size)
      have he : readLine S x = readStep S word ws := by unfold readLine; rw [HW.out]; rfl
      rw [he]
      refine (read_calls w.heap.size w.heap.size c A S word ws w3.drew (Kd.C_drew hC) hc (HHM.out.rep.below hd) (HL.out.below hwd).kinds (HE.out.below hwd) (by have := HXS.out; have := HSZ.out; omega) (fun y hy => by have := HWB.out.2.2 y (by rw [HW.out]; exact List.mem_cons_of_mem _ hy); have := HXS.out; have := HSZ.out; omega) HMX.out.1 HMX.out.2).mono (StepPost.from hd HHM.out.rep.2.1)
    have HREAD := Aside0.mk hread
    clear hread
    cases ws with
    | nil =>
      have HR1 := Aside0.mk (HREAD.out (some ⟨w2.heap.size, 0, none⟩) 0 (Nat.le_refl _) ⟨rfl, by simp, fun h => absurd h (by simp)⟩)
      simp only [List.length_nil, Nat.zero_add]
      gi_wp2_with (fail)
      refine region_round (by kernel_rfl) (by intro i o ho c; rcases i with _ | _ | _ | _ | _ | _ | i <;> simp at ho <;> subst ho <;> simp) ?_
      refine wpAnyIn_take (i := 0) (v := ?_) rfl rfl (by kernel_rfl) (by kernel_rfl) (by kernel_rfl) (fun _ _ _ h => h) ⟨Or.inl ⟨by rfl, ?_⟩, fun _ => rfl⟩ ?_
      rotate_left
      · intro w
        go_simp
        with_reducible rfl
      refine wpAnyIn_take (i := 1) (v := ?_) rfl rfl (by kernel_rfl) (by kernel_rfl) (by kernel_rfl) (fun _ _ _ h => h) ⟨Or.inl ⟨by rfl, ?_⟩, fun _ => rfl⟩ ?_
      rotate_left
      · intro w
        go_simp
        with_reducible rfl
      refine wpAnyIn_take (i := 3) (v := ?_) rfl rfl (by kernel_rfl) (by kernel_rfl) (by kernel_rfl) (fun _ _ _ h => h) ⟨Or.inl ⟨by rfl, ?_⟩, fun _ => rfl⟩ ?_
      rotate_left
      · intro w
        go_simp
        with_reducible rfl
      refine wpAnyIn_take (i := 4) (v := ?_) rfl rfl (by kernel_rfl) (by kernel_rfl) (by kernel_rfl) (fun _ _ _ h => h) ⟨Or.inl ⟨by rfl, ?_⟩, fun _ => rfl⟩ ?_
      rotate_left
      · intro w
        go_simp
        with_reducible rfl
      refine wpAnyIn_ready (rs := [2]) (by kernel_rfl) (by simp) ?_
      refine AllReadyIn.cons rfl (fun K hK => ?_) ?_
      rotate_left
      · exact AllReadyIn.nil
      go_simp
      refine hK _ _ ?_
      clear hK K
      refine wpAnyIn_ready (rs := [5]) (by kernel_rfl) (by simp) ?_
      refine AllReadyIn.cons rfl (fun K hK => ?_) ?_
      rotate_left
      · exact AllReadyIn.nil
      go_simp
      cases hrr : readLine S x with
      | none =>
        have h := HR1.out
        rw [hrr] at h
        have HN := Aside0.mk (HAL.out hrr)
        have HHR := Aside0.mk h
        clear h hrr hK
        gi_wp2_with (fail)
        refine ⟨trivial, (callsIn_wide.2 HHR.out).mono ?_⟩
        rintro e w5 ⟨rfl, hR5, hF5⟩
        obtain ⟨_, _, cv, iv, hs, _, _⟩ := HHM.out.rep
        exact ⟨rfl, hF5.others ⟨_, _, _, hs⟩, rfl, HN.out, _, HHM.out.step hR5 hF5⟩
      | some T =>
        have h := HR1.out
        rw [hrr] at h
        have HN := Aside0.mk (HRL.out.trans hrr)
        have HHR := Aside0.mk h
        clear h hrr
        gi_wp2_with (fail)
        refine ⟨trivial, (callsIn_wide.2 HHR.out).mono ?_⟩
        rintro e w5 ⟨rfl, hR5, hF5⟩
        refine hK _ _ ?_
        refine wpAnyIn_done (by kernel_rfl) ?_ _
        obtain ⟨_, _, cv, iv, hs, _, _⟩ := HHM.out.rep
        obtain ⟨cs, hbs⟩ := HHM.out.bs
        exact ⟨hF5.others ⟨_, _, _, hs⟩, (hF5.block hbs (by omega) (by decide) (by decide)).trans hbs.symm, T, HN.out, HHM.out.step hR5 hF5⟩
    | cons y r =>
      have hCt := Kd.C_drop HCA.out (m := 1) (by simp) (Nat.le_refl _)
      have hne1 : ¬ (word :: y :: r).length = 1 := by simp
      rw [if_neg hne1] at hCt
      have hCt' : Kd.string.C w3 (some ⟨w2.heap.size, 1, none⟩) (y :: r).length (y :: r) := hCt
      have HR1 := Aside0.mk (HREAD.out (some ⟨w2.heap.size, 1, none⟩) (y :: r).length (Nat.le_refl _) hCt')
      clear hCt hCt' hne1
      have l1 : (0 : Int) < (r.length : Int) + 1 + 1 := by omega
      have l2 : (1 : Int) ≤ (r.length : Int) + 1 + 1 := by omega
      simp only [List.length_cons]
      gi_wp2_with (fail)
      refine region_round (by kernel_rfl) (by intro i o ho c; rcases i with _ | _ | _ | _ | _ | _ | i <;> simp at ho <;> subst ho <;> simp) ?_
      refine wpAnyIn_take (i := 0) (v := ?_) rfl rfl (by kernel_rfl) (by kernel_rfl) (by kernel_rfl) (fun _ _ _ h => h) ⟨Or.inl ⟨by rfl, ?_⟩, fun _ => rfl⟩ ?_
      rotate_left
      · intro w
        go_simp
        with_reducible rfl
      refine wpAnyIn_take (i := 1) (v := ?_) rfl rfl (by kernel_rfl) (by kernel_rfl) (by kernel_rfl) (fun _ _ _ h => h) ⟨Or.inl ⟨by rfl, ?_⟩, fun _ => rfl⟩ ?_
      rotate_left
      · intro w
        go_simp
        with_reducible rfl
      refine wpAnyIn_take (i := 3) (v := ?_) rfl rfl (by kernel_rfl) (by kernel_rfl) (by kernel_rfl) (fun _ _ _ h => h) ⟨Or.inl ⟨by rfl, ?_⟩, fun _ => rfl⟩ ?_
      rotate_left
      · intro w
        go_simp
        with_reducible rfl
      refine wpAnyIn_take (i := 4) (v := ?_) rfl rfl (by kernel_rfl) (by kernel_rfl) (by kernel_rfl) (fun _ _ _ h => h) ⟨Or.inl ⟨by rfl, ?_⟩, fun _ => rfl⟩ ?_
      rotate_left
      · intro w
        go_simp
        with_reducible rfl
      refine wpAnyIn_ready (rs := [2]) (by kernel_rfl) (by simp) ?_
      refine AllReadyIn.cons rfl (fun K hK => ?_) ?_
      rotate_left
      · exact AllReadyIn.nil
      go_simp
      refine hK _ _ ?_
      clear hK K
      refine wpAnyIn_ready (rs := [5]) (by kernel_rfl) (by simp) ?_
      refine AllReadyIn.cons rfl (fun K hK => ?_) ?_
      rotate_left
      · exact AllReadyIn.nil
      go_simp
      cases hrr : readLine S x with
      | none =>
        have h := HR1.out
        rw [hrr] at h
        have HN := Aside0.mk (HAL.out hrr)
        have HHR := Aside0.mk h
        clear h hrr hK
        gi_wp2_with (fail)
        refine ⟨trivial, (callsIn_wide.2 HHR.out).mono ?_⟩
        rintro e w5 ⟨rfl, hR5, hF5⟩
        obtain ⟨_, _, cv, iv, hs, _, _⟩ := HHM.out.rep
        exact ⟨rfl, hF5.others ⟨_, _, _, hs⟩, rfl, HN.out, _, HHM.out.step hR5 hF5⟩
      | some T =>
        have h := HR1.out
        rw [hrr] at h
        have HN := Aside0.mk (HRL.out.trans hrr)
        have HHR := Aside0.mk h
        clear h hrr
        gi_wp2_with (fail)
        refine ⟨trivial, (callsIn_wide.2 HHR.out).mono ?_⟩
        rintro e w5 ⟨rfl, hR5, hF5⟩
        refine hK _ _ ?_
        refine wpAnyIn_done (by kernel_rfl) ?_ _
        obtain ⟨_, _, cv, iv, hs, _, _⟩ := HHM.out.rep
        obtain ⟨cs, hbs⟩ := HHM.out.bs
        exact ⟨hF5.others ⟨_, _, _, hs⟩, (hF5.block hbs (by omega) (by decide) (by decide)).trans hbs.symm, T, HN.out, HHM.out.step hR5 hF5⟩
  case hdone =>
    intro D W hD hK hdf
    obtain ⟨S, hS, hM⟩ := hK
    have hDz : w.heap.size + 2 ≤ D := by have := Z1.out; omega
    have heb := hM.eb
    have hbe := hM.be
    obtain ⟨_, _, cv, iv, hs, hcR, hiR⟩ := hM.rep
    obtain ⟨A, c, rfl⟩ := Kd.R_slice hcR
    obtain ⟨A', c', rfl⟩ := Kd.R_slice hiR
    obtain ⟨_, hcap1, hcC⟩ := Kd.R_reads' hcR
    obtain ⟨_, hcap2, hiC⟩ := Kd.R_reads' hiR
    have HCP := Aside0.mk (And.intro hcap1 hcap2)
    clear hcap1 hcap2
    have hP : parseP text = if S.ok = true ∧ S.text = text then some S else none := by unfold parseP; rw [hS]; rfl
    have s0 := (blk_cell hs 0).trans rfl
    have s1 := (blk_cell hs 1).trans rfl
    have s2 := (blk_cell hs 2).trans rfl
    have s3 := (blk_cell hs 3).trans rfl
    have hV := valid_calls S.name S.cols S.key S.idxs A A' c c' W hcC hiC
    have HV := Aside0.mk hV
    have HDF := Aside0.mk hdf
    have HHS := Aside0.mk hs
    have HEB := Aside0.mk heb
    have HBE := Aside0.mk hbe
    have HDZ := Aside0.mk hDz
    have HCC := Aside0.mk hcC
    have HIC := Aside0.mk hiC
    have HPP := Aside0.mk hP
    have HD := Aside0.mk hD
    clear hS hM heb hbe hs hcR hiR hP hcC hiC hV hDz hD hdf
    simp only [Exit.inBlock, Exit.then]
    refine wpX_seq (wpX_of_wp ?_)
    cases hok : S.ok with
    | false =>
      have HPN := Aside0.mk (show parseP text = none by rw [HPP.out, hok]; simp)
      go_wp2_with (fail)
      refine HV.out.mono ?_
      rintro e w2 ⟨rfl, hb2⟩
      rw [hok]
      have HB2 := Aside0.mk hb2
      clear hb2 s0 s1 s2 s3 HV hok
      go_wp2_with (fail)
      refine (must_no _).mono ?_
      rintro e w3 ⟨rfl, rfl⟩
      rw [HPN.out]
      have hz := blk_lt HEB.out
      exact leaves_caught rfl rfl ((HB2.out.block _ (by omega)).trans HHS.out) ((HB2.out.block _ hz).trans HEB.out) (HBE.out.trans (HB2.out.mono (by omega))) ((HB2.out.block _ (blk_lt HDF.out)).trans HDF.out) HDZ.out
    | true =>
      have G := Aside0.mk (good_of_ok hok)
      have HOK := Aside0.mk hok
      go_wp2_with (fail)
      refine HV.out.mono ?_
      rintro e w2 ⟨rfl, hb2⟩
      rw [hok]
      have s0 := (hb2.cell (World.block_lt_of_cell? _ _ s0)).trans s0
      have s1 := (hb2.cell (World.block_lt_of_cell? _ _ s1)).trans s1
      have s2 := (hb2.cell (World.block_lt_of_cell? _ _ s2)).trans s2
      have s3 := (hb2.cell (World.block_lt_of_cell? _ _ s3)).trans s3
      have HWR := Aside0.mk (written_calls S G.out A A' c c' w2 (Kd.C_below HCC.out hb2) (Kd.C_below HIC.out hb2) (HL.out.below (HBE.out.trans (hb2.mono HBE.out.size))).kinds (HL.out.below (HBE.out.trans (hb2.mono HBE.out.size))).tab)
      have HB2 := Aside0.mk hb2
      clear hb2 HV hok
      go_wp2_with (fail)
      refine HWR.out.mono ?_
      rintro e w3 ⟨rfl, hb3⟩
      have HB3 := Aside0.mk hb3
      clear hb3 HWR s0 s1 s2 s3
      go_wp2_with (fail)
      have hz := blk_lt HHS.out
      have hz1 := blk_lt HEB.out
      have hz2 := blk_lt HDF.out
      have hbw : Below W.heap.size W w3 := HB2.out.trans (HB3.out.mono HB2.out.size)
      by_cases ht : S.text = text
      · have hq : (S.text.toList == text.toList) = true := by rw [ht]; simp
        have hC3 := Kd.C_below HCC.out hbw
        have hX3 := Kd.C_below HIC.out hbw
        have HQ := Aside0.mk (show parseP text = some S by have := HPP.out; rw [this, if_pos ⟨HOK.out, ht⟩])
        have HS3 := Aside0.mk ((hbw.block _ hz).trans HHS.out)
        have HE3 := Aside0.mk ((hbw.block _ hz1).trans HEB.out)
        have HD3 := Aside0.mk ((hbw.block _ hz2).trans HDF.out)
        have HB3w := Aside0.mk (HBE.out.trans (hbw.mono HBE.out.size))
        have s0 := (blk_cell HS3.out 0).trans rfl
        have s1 := (blk_cell HS3.out 1).trans rfl
        have s2 := (blk_cell HS3.out 2).trans rfl
        have s3 := (blk_cell HS3.out 3).trans rfl
        have e0 := (blk_cell HE3.out 0).trans rfl
        have f0 := blk_frozen HS3.out 0
        have f1 := blk_frozen HS3.out 1
        have f2 := blk_frozen HS3.out 2
        have f3 := blk_frozen HS3.out 3
        have g0 := blk_frozen HE3.out 0
        have HC3 := Aside0.mk hC3
        have HX3 := Aside0.mk hX3
        clear hz hz1 hz2 hbw hC3 hX3
        rw [hq]
        refine (must_ok _).mono ?_
        rintro e w4 ⟨rfl, rfl⟩
        go_wp2_with (fail)
        refine wpX_of_wp ?_
        go_wp2
        rw [schema_self HS3.out HE3.out, HQ.out]
        exact leaves_returned rfl rfl HS3.out HE3.out HB3w.out HD3.out HDZ.out HCP.out.1 HCP.out.2 HC3.out HX3.out
      · have hq : (S.text.toList == text.toList) = false := by rw [Bool.eq_false_iff]; intro h; exact ht (bytes_of_toList (by simpa using h))
        have HQ := Aside0.mk (show parseP text = none by have := HPP.out; rw [this, if_neg (fun h => ht h.2)])
        rw [hq]
        refine (must_no _).mono ?_
        rintro e w4 ⟨rfl, rfl⟩
        rw [HQ.out]
        exact leaves_caught rfl rfl ((hbw.block _ hz).trans HHS.out) ((hbw.block _ hz1).trans HEB.out) (HBE.out.trans (hbw.mono HBE.out.size)) ((hbw.block _ hz2).trans HDF.out) HDZ.out
  case hpanic =>
    intro D ch W hD hK hdf
    obtain ⟨rfl, hS, S, hM⟩ := hK
    obtain ⟨_, _, cv, iv, hs, _, _⟩ := hM.rep
    have hP : parseP text = none := by unfold parseP; rw [hS]; rfl
    rw [hP]
    exact leaves_caught rfl rfl hs hM.eb hM.be hdf (by have := Z1.out; omega)
end Go.Proofs.YtfkbpjeocljflaaDoor
