/-
  strings.Lines' iterator: its contract for a loop body that may panic.
-/
import Derived.RangeFuncNested
import Derived.RangeFuncBound
import Derived.RangeFuncCalls
import Derived.RangeFuncLeaves
import Derived.Shelf.Abstract
import Derived.Shelf.RegionOpen
import Derived.WalkKit
import Derived.IntWalk
import Derived.OwnWalkIn
import Derived.TacticsInMore
import Derived.LoopNIn
import Derived.LoopIn
import Derived.Shelf.Lay
import Derived.Shelf.Small.Strs
import Derived.Lib.IndexLaws
import Derived.Lib.Hide
import Derived.Test.YtfkbpjeocljflaaDoorProg
import Derived.Test.YtfkbpjeocljflaaDoorText
/-
  A ROUND OF A RANGE OVER A FUNCTION WHOSE BODY MAY PANIC: the round's contract from the body's walk; the panic goes up through yield.
-/
namespace Go.Proofs.YtfkbpjeocljflaaDoor
open Go Go.RowKit
variable {F : Fence} {n : Nat} {P : Program}

/-- What is asked at a round's end: off its end: 'ready' again · a panic: nothing more (the record stays busy). -/
def panicPost (P : Program) (l : Nat) (R : Ending → World → Prop) : Exit → Act → World → Prop
  | .normal, _, w => ∃ v w', (Instr.endRound l none).run P w = .ok v w' ∧ R (.returned v) w'
  | .panic chain, a, w => a.defers = [] ∧ R (.panicked chain) w
  | .ret, _, _ => False
  | .exit _, _, _ => False
  | .goto _, _, _ => False
  | .outgrown, _, _ => False

theorem roundIn_of_wpIn_panics {l : Nat} {f : FuncId} {tmps : Array Value} {assign body : Code} {w : World} {R : Ending → World → Prop} (hF : F.fn f) (hf : ∃ fn, P.funcs[f]? = some fn)
    (h : assign.wpIn (F.inRound l) n P (Exit.then (fun a₁ w₁ => ∃ w₂, (Instr.beginRound l).run P w₁ = .ok () w₂ ∧ body.wpIn (F.inRound l) n P (panicPost P l R) a₁ w₂) (fun _ _ _ => False))
      { tmps := tmps, defers := [] } w) :
    RoundIn F n P l f tmps assign body w R := by
  refine ⟨hF, fun c cs hr => ?_⟩
  let b : Frame := { (default : Frame) with fn := f, kind := .normal, roundOf := some l }
  have hb0 : Frame.round l f tmps assign body .normal = b.atR { tmps := tmps, defers := [] } [.code assign, .beginRound, .code body] := by
    simp [Frame.round, Frame.atR, b]
  have hr' : (F.inRound l).room ((c :: cs).length + 1 + n) := hr
  have hF' : (F.inRound l).fn b.fn := hF
  obtain ⟨e, a₁, w₁, hq, harr⟩ := h b [.beginRound, .code body] (c :: cs) rfl hF' hr'
  rw [← hb0] at harr
  cases e with
  | normal =>
    obtain ⟨w₂, hbr, hbody⟩ := hq
    have s1 : StepsIn (Machine.fenced P (F.inRound l)) P (lone (b.atR a₁ [.beginRound, .code body]) (c :: cs) w₁) (lone (b.atR a₁ [.code body]) (c :: cs) w₂) :=
      .one (fenced_calm (fr := b.atR a₁ [.beginRound, .code body]) hF' hr' rfl) (stepR_beginRound rfl hbr)
    obtain ⟨e₂, a₂, w₃, hq₂, harr₂⟩ := hbody b [] (c :: cs) rfl hF' hr'
    cases e₂ with
    | normal =>
      obtain ⟨v, w₄, hend, hR⟩ := hq₂
      exact ⟨.returned v, w₄, hR, (StepsIn.trans harr s1).trans (StepsIn.trans harr₂ (.one (fenced_calm (fr := b.atR a₂ []) hF' hr' rfl) (stepR_round_end rfl rfl hend)))⟩
    | panic chain =>
      obtain ⟨hd, hR⟩ := hq₂
      obtain ⟨k₁, hs⟩ := harr₂
      obtain ⟨fn, hfn⟩ := hf
      have hl : ({ b.atR a₂ k₁ with mode := .panicking chain } : Frame).leaving P w₃ (.panicked chain) := ⟨rfl, by simpa [Frame.atR] using hd, fn, hfn⟩
      refine ⟨.panicked chain, w₃, hR, (StepsIn.trans harr s1).trans (StepsIn.trans hs (.one (fenced_leaving (n := n) hF' hr' hl) (step_leave_panicked hl)))⟩
    | ret => exact hq₂.elim
    | exit id => exact hq₂.elim
    | goto t => exact hq₂.elim
    | outgrown => exact hq₂.elim
  | exit id => exact hq.elim
  | goto t => exact hq.elim
  | ret => exact hq.elim
  | panic chain => exact hq.elim
  | outgrown => exact hq.elim
end Go.Proofs.YtfkbpjeocljflaaDoor

namespace Go.Proofs.YtfkbpjeocljflaaDoor
open Go Go.RowKit Go.Shelf
attribute [local go_sem] Oper.semAt_some
set_option linter.unusedVariables false
set_option linter.unusedSimpArgs false

/-- A block of cells stays one, of its type. -/
def TypedAs (A B : World) (b : Nat) : Prop := ∀ c t fz, A.heap[b]? = some (.cells c t fz) → ∃ c', B.heap[b]? = some (.cells c' t fz)
theorem typedAs_setCell (W : World) (b : Nat) (v : Value) : TypedAs W (W.setCell ⟨b, 0, none⟩ v) b := by
  intro c t fz h
  simp only [World.setCell, Array.getElem?_modify, h]
  simp
theorem typedAs_setCell_drew (W : World) (b : Nat) (v : Value) : TypedAs W (W.setCell ⟨b, 0, none⟩ v).drew b := typedAs_setCell W b v
theorem grownBy_setCell_drew (W : World) (b : Nat) (v : Value) : W.grownBy (W.setCell ⟨b, 0, none⟩ v).drew (some b) := by
  have h := grownBy_setCell' W b v
  exact ⟨h.os, h.tape, h.output, h.size, h.block⟩
theorem lines1_in (n l Bs : Nat) (hn : 1 ≤ n) (hidx : ∀ (s : ByteArray) (c : Int) (w : World), Calls Tryd.prog 29 #[.string s, .int .u8 c] w fun e w' => e = .returned (.int .i64 (Lib.indexByte s.data.toList c.toNat.toUInt8)) ∧ w' = w)
    (J : List ByteArray → World → Prop) (Jp : List PanicEntry → World → Prop)
    (hJ : ∀ pre A B row, J pre A → A.grownBy B row → (∀ r, row = some r → r = Bs ∧ TypedAs A B Bs) → J pre B)
    (s : ByteArray)
    (hY : ∀ pre x W, J pre W → (∃ r, linesB s = pre ++ x :: r) → YieldAt Fence.wide (n - 1) Tryd.prog l #[.string x] W fun e W' =>
      (e = .returned (.bool true) ∧ J (pre ++ [x]) W' ∧ W'.cell? ⟨Bs, 0, none⟩ = W.cell? ⟨Bs, 0, none⟩ ∧ W'.frozen? ⟨Bs, 0, none⟩ = W.frozen? ⟨Bs, 0, none⟩) ∨ (∃ ch, e = .panicked ch ∧ Jp ch W'))
    (W : World) (hB : W.cell? ⟨Bs, 0, none⟩ = some (.string s)) (hf : W.frozen? ⟨Bs, 0, none⟩ = false) (hsz : s.size < 4611686018427387904) (h0 : J [] W) :
    CallsIn Fence.wide n Tryd.prog 28 #[.func (.yield l) #[] #[], .pointer (some ⟨Bs, 0, none⟩)] W fun e W' =>
      (∃ v, e = .returned v ∧ J (linesB s) W') ∨ (∃ ch, e = .panicked ch ∧ Jp ch W') := by
  refine callsIn_of_wp Tryd.func28 rfl trivial ?_ rfl
  simp only [Tryd.ntmps28, List.size_toArray, List.length_cons, List.length_nil, Nat.reduceAdd, Nat.reduceSub, Array.replicate_succ, Array.replicate_zero, List.push_toArray, List.append_toArray, List.nil_append, List.cons_append]
  gi_wp2
  gi_loopw [3] (fun p wr => ∃ (pre : List ByteArray) (r : ByteArray), J pre wr ∧ wr.cell? ⟨Bs, 0, none⟩ = some (.string r) ∧ wr.frozen? ⟨Bs, 0, none⟩ = false ∧ r.size < 4611686018427387904 ∧ Hid (linesB s = pre ++ linesB r))
    (fun p wr => match wr.cell? ⟨Bs, 0, none⟩ with | some (.string r) => r.size | _ => 0)
  case atStart =>
    exact ⟨[], s, h0, hB, hf, hsz, Lib.hid rfl⟩
  case round =>
    obtain ⟨pre, r, hJ0, hc, hfz, hsr, hl⟩ := hrel
    by_cases h1 : 0 < r.size
    · have h1' : (0 : Int) < r.size := by omega
      have hcall := hidx r 10 wr
      by_cases hi : 0 ≤ Lib.indexByte r.data.toList 10
      · obtain ⟨i, hie⟩ : ∃ i : Nat, Lib.indexByte r.data.toList 10 = (i : Int) := ⟨(Lib.indexByte r.data.toList 10).toNat, by omega⟩
        have hlt : (i : Int) < r.size := by have h2 := (Lib.indexByte_some hie).1; have h3 := (List.getElem?_eq_some_iff.1 h2).1; simp at h3; omega
        have hh := Lib.hid (show headLine r = r.extract 0 (i + 1) by unfold headLine; rw [if_pos hi, hie]; rfl)
        have ht := Lib.hid (show tailLine r = r.extract (i + 1) r.size by unfold tailLine; rw [if_pos hi, hie]; rfl)
        simp only [show (10 : Int).toNat.toUInt8 = 10 from rfl, hie] at hcall
        have hlines := Lib.hid (linesB_pos h1)
        gi_wp2_with (refine ⟨trivial, ?_⟩; gi_at_call 29; refine (callsIn_wide.2 hcall).mono ?_; rintro e w1 ⟨rfl, rfl⟩)
        have hw1 : wrap64 ((i : Int) + 1) = (i : Int) + 1 := (by unfold wrap64; omega)
        have hle : (i : Int) + 1 ≤ r.size := by omega
        have hi0 : (0 : Int) ≤ (i : Int) + 1 := by omega
        refine wpIn_wide.2 ?_
        go_region
        have hJ1 : J pre (w1.setCell ⟨Bs, 0, none⟩ (.string (r.extract (i + 1) r.size))).drew := hJ pre w1 _ (some Bs) hJ0 (grownBy_setCell_drew w1 Bs _) (fun r e => by cases e; exact ⟨rfl, typedAs_setCell_drew _ _ _⟩)
        have hc1 : (w1.setCell ⟨Bs, 0, none⟩ (.string (r.extract (i + 1) r.size))).drew.cell? ⟨Bs, 0, none⟩ = some (.string (r.extract (i + 1) r.size)) := World.cell?_setCell_same' _ _ _ (by rw [hc]; rfl)
        have hf1 : (w1.setCell ⟨Bs, 0, none⟩ (.string (r.extract (i + 1) r.size))).drew.frozen? ⟨Bs, 0, none⟩ = false := (World.frozen?_setCell _ _ _ _).trans hfz
        generalize (w1.setCell ⟨Bs, 0, none⟩ (.string (r.extract (i + 1) r.size))).drew = w2 at hJ1 hc1 hf1 ⊢
        clear hJ0 hcall
        obtain ⟨fn, tmps, assign, body, hy, hR⟩ := hY pre (r.extract 0 (i + 1)) w2 hJ1 ⟨_, by rw [hl.out, hlines.out, hh.out]⟩
        gi_wp2
        refine hR.mono ?_
        rintro e W3 (⟨rfl, hJ3, hk3, hf3⟩ | ⟨ch, rfl, hJp⟩)
        · have hm := Lib.hid (tailLine_lt r h1)
          have hcm : w1.cell? ⟨Bs, 0, none⟩ = some (.string r) := hc
          rw [hc1, ← ht.out] at hk3
          rw [hf1] at hf3
          clear hc hfz hc1 hf1
          gi_wp2
          go_roundw
          case rel => exact ⟨pre ++ [r.extract 0 (i + 1)], tailLine r, hJ3, hk3, hf3, by have := hm.out; omega, Lib.hid (by rw [hl.out, hlines.out, hh.out]; simp)⟩
          case measure => rw [hk3, hcm]; exact hm.out
        · gi_wp2
          exact ⟨rfl, .inr ⟨ch, rfl, hJp⟩⟩
      · have hie : Lib.indexByte r.data.toList 10 = -1 := by have := Lib.indexByte_ge r.data.toList 10; omega
        have hh := Lib.hid (show headLine r = r by unfold headLine; rw [if_neg hi])
        have ht := Lib.hid (show tailLine r = ⟨#[]⟩ by unfold tailLine; rw [if_neg hi])
        simp only [show (10 : Int).toNat.toUInt8 = 10 from rfl, hie] at hcall
        have hlines := Lib.hid (linesB_pos h1)
        have hJ1 : J pre (wr.setCell ⟨Bs, 0, none⟩ (.string ⟨#[]⟩)) := hJ pre wr _ (some Bs) hJ0 (grownBy_setCell' wr Bs _) (fun r e => by cases e; exact ⟨rfl, typedAs_setCell _ _ _⟩)
        have hc1 := Lib.hid (show (wr.setCell ⟨Bs, 0, none⟩ (.string ⟨#[]⟩)).cell? ⟨Bs, 0, none⟩ = some (.string ⟨#[]⟩) from World.cell?_setCell_same' _ _ _ (by rw [hc]; rfl))
        have hf1 := Lib.hid (show (wr.setCell ⟨Bs, 0, none⟩ (.string ⟨#[]⟩)).frozen? ⟨Bs, 0, none⟩ = false from (World.frozen?_setCell _ _ _ _).trans hfz)
        obtain ⟨fn, tmps, assign, body, hy, hR⟩ := hY pre r _ hJ1 ⟨_, by rw [hl.out, hlines.out, hh.out]⟩
        clear hJ0
        gi_wp2_with (refine ⟨trivial, ?_⟩; gi_at_call 29; refine (callsIn_wide.2 hcall).mono ?_; rintro e w1 ⟨rfl, rfl⟩)
        refine hR.mono ?_
        rintro e W3 (⟨rfl, hJ3, hk3, hf3⟩ | ⟨ch, rfl, hJp⟩)
        · have hm := Lib.hid (tailLine_lt r h1)
          have hcm : w1.cell? ⟨Bs, 0, none⟩ = some (.string r) := hc
          rw [hc1.out, ← ht.out] at hk3
          rw [hf1.out] at hf3
          clear hc hfz hc1 hf1
          gi_wp2
          go_roundw
          case rel => exact ⟨pre ++ [r], tailLine r, hJ3, hk3, hf3, by have := hm.out; omega, Lib.hid (by rw [hl.out, hlines.out, hh.out]; simp)⟩
          case measure => rw [hk3, hcm]; exact hm.out
        · gi_wp2
          exact ⟨rfl, .inr ⟨ch, rfl, hJp⟩⟩
    · gi_wp2
      go_end0
      exact .inl ⟨_, rfl, by rw [hl.out, linesB_nil h1, List.append_nil]; exact hJ0⟩
end Go.Proofs.YtfkbpjeocljflaaDoor
