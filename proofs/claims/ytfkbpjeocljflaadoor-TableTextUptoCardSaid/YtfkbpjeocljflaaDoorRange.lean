/-
  THE STATEMENT 'for line := range strings.Lines(text) { body }' WHERE THE BODY MAY PANIC.
  'wpX': the walk of a piece of code in the frames of functions that exist (a round's frame that panics is passed on as it should be).
-/
import Derived.Test.YtfkbpjeocljflaaDoorLines
namespace Go.Proofs.YtfkbpjeocljflaaDoor
open Go Go.RowKit Go.Shelf
set_option linter.unusedVariables false
set_option linter.unusedSimpArgs false

def wpX (n : Nat) (P : Program) (c : Code) (Q : Exit → Act → World → Prop) (a : Act) (w : World) : Prop :=
  ∀ (b : Frame) (k : List Item) (cs : List Frame), b.roundOf = none → (∃ fn, P.funcs[b.fn]? = some fn) →
    ∃ e a' w', Q e a' w' ∧ ArrivesIn (Machine.fenced P Fence.wide) P (lone (b.atR a (.code c :: k)) cs w) b k cs e a' w'

variable {n : Nat} {P : Program} {Q : Exit → Act → World → Prop} {a : Act} {w : World}

theorem wpX_of_wpIn {c : Code} (h : c.wpIn Fence.wide n P Q a w) : wpX n P c Q a w := fun b k cs hro _ => h b k cs hro trivial (room_wide _)
theorem wpX_of_wp {c : Code} (h : c.wp P Q a w) : wpX n P c Q a w := wpX_of_wpIn (wpIn_wide.2 h)

theorem wpX_seq {x y : Code} (h : wpX n P x (Exit.then (wpX n P y Q) Q) a w) : wpX n P (Code.seq x y) Q a w := by
  intro b k cs hro hf
  have h0 : (lone (b.atR a (.code (.seq x y) :: k)) cs w).fenced P Fence.wide := fenced_wide _ _
  obtain ⟨e, a₁, w₁, hq, harr⟩ := h b (.code y :: k) cs hro hf
  cases e with
  | normal =>
    obtain ⟨e₂, a₂, w₂, hq₂, harr₂⟩ := hq b k cs hro hf
    exact ⟨e₂, a₂, w₂, hq₂, .of_steps (.head h0 stepR_seq harr) harr₂⟩
  | exit id => exact ⟨_, a₁, w₁, hq, .of_steps (.one h0 stepR_seq) (.pass (x := .code y) rfl (fun _ _ => .inl (by simp)) harr)⟩
  | goto l => exact ⟨_, a₁, w₁, hq, .of_steps (.one h0 stepR_seq) (.pass (x := .code y) rfl (fun _ _ => .inl (by simp)) harr)⟩
  | ret => exact ⟨_, a₁, w₁, hq, .of_steps (.one h0 stepR_seq) (.pass (x := .code y) rfl (fun _ _ => .inl (by simp)) harr)⟩
  | panic ch => exact ⟨_, a₁, w₁, hq, .of_steps (.one h0 stepR_seq) (.pass (x := .code y) rfl (fun _ _ => .inl (by simp)) harr)⟩
  | outgrown => exact ⟨_, a₁, w₁, hq, .of_steps (.one h0 stepR_seq) (.pass (x := .code y) rfl (fun _ _ => .inl (by simp)) harr)⟩

/-- A function's contract from such a walk of its body, deferred calls and marks and all. -/
theorem callsIn_of_wpX_marks {f : FuncId} {fn : Func} {c : Code} {args : Array Value} {w : World} {R : Ending → World → Prop}
    (hf : P.funcs[f]? = some fn) (hb : fn.body = some c)
    (h : wpX n P c (bodyPostM Fence.wide n P fn R) { tmps := args ++ Array.replicate (fn.ntmps - args.size) undef, defers := [] } w) : CallsIn Fence.wide n P f args w R := by
  refine ⟨trivial, fun cs hr => ?_⟩
  have hF : Fence.wide.fn f := trivial
  let b : Frame := { (default : Frame) with fn := f, kind := .normal, roundOf := none }
  have henter : Frame.enter P f args .normal =
      b.atR { tmps := args ++ Array.replicate (fn.ntmps - args.size) undef, defers := [] } [.code c] := by
    simp [Frame.enter, Frame.atR, hf, hb, b]
  obtain ⟨e, a', w', hq, harr⟩ := h b [] cs rfl ⟨fn, hf⟩
  rw [← henter] at harr
  cases e with
  | normal =>
    obtain ⟨e', w'', fr', hR, hs, hfn, hl⟩ := leaves_stepsInM a'.defers .returning w' { b.atR a' [] with mode := .returning } cs rfl rfl rfl hf rfl hF hr hq
    exact ⟨e', w'', fr', hR, ComesIn.of_steps (StepsIn.trans harr (.one (fenced_calm (fr := b.atR a' []) hF hr rfl) (stepR_end rfl))) hs, hfn, hl⟩
  | ret =>
    obtain ⟨todo, hs₀⟩ := harr.1 rfl
    obtain ⟨e', w'', fr', hR, hs, hfn, hl⟩ := leaves_stepsInM a'.defers .returning w' { b.atR a' todo with mode := .returning } cs rfl rfl rfl hf rfl hF hr hq
    exact ⟨e', w'', fr', hR, ComesIn.of_steps hs₀ hs, hfn, hl⟩
  | panic chain =>
    obtain ⟨todo, hs₀⟩ := harr
    obtain ⟨e', w'', fr', hR, hs, hfn, hl⟩ := leaves_stepsInM a'.defers (.panicking chain) w' { b.atR a' todo with mode := .panicking chain } cs rfl rfl rfl hf rfl hF hr hq
    exact ⟨e', w'', fr', hR, ComesIn.of_steps hs₀ hs, hfn, hl⟩
  | exit id => exact hq.elim
  | goto l => exact hq.elim
  | outgrown => exact ⟨.outgrown, w', b, hq, harr.resolve_left (by simp [b]), rfl, trivial⟩

/-- How the body of a round may be left. -/
def linePost (Bs : Nat) (I : List ByteArray → World → Prop) (Ip : List PanicEntry → World → Prop) (xs : List ByteArray) (W : World) : Exit → Act → World → Prop
  | .normal, _, W' => KeepsOthers W W' ∧ W'.heap[Bs]? = W.heap[Bs]? ∧ I xs W'
  | .panic ch, a, W' => a.defers = [] ∧ KeepsOthers W W' ∧ Ip ch W'
  | .ret, _, _ => False
  | .exit _, _, _ => False
  | .goto _, _, _ => False
  | .outgrown, _, _ => False

theorem wpX_rangeLines {g : Operand} {ps : Array Tmp} {assign body : Code} (hidx : ∀ (s : ByteArray) (c : Int) (w : World), Calls Tryd.prog 29 #[.string s, .int .u8 c] w fun e w' => e = .returned (.int .i64 (Lib.indexByte s.data.toList c.toNat.toUInt8)) ∧ w' = w)
    (h2 : 2 ≤ n) {Bs : Nat} (hg : a.eval g = .func (.func 28) #[] #[.pointer (some ⟨Bs, 0, none⟩)]) (hps : ps.size = 1)
    (s : ByteArray) (hB : w.cell? ⟨Bs, 0, none⟩ = some (.string s)) (hf : w.frozen? ⟨Bs, 0, none⟩ = false) (hsz : s.size < 4611686018427387904) (hBlt : Bs < w.heap.size)
    (I : List ByteArray → World → Prop) (Ip : List PanicEntry → World → Prop)
    (hI : ∀ pre A B row, I pre A → A.grownBy B row → (∀ r, row = some r → (r = Bs ∧ TypedAs A B Bs) ∨ (w.heap.size ≤ r ∧ ∃ o : Obj, A.heap[r]? = some o ∧ o.isCells = false)) → I pre B)
    (h0 : I [] w) (a₁ : ByteArray → Act)
    (hassign : ∀ (l : Nat) (x : ByteArray) (W : World) (K : Act → World → Prop), K (a₁ x) W →
      assign.wpIn (Fence.wide.inRound l) (n - 1 - 1) Tryd.prog (Exit.then K (fun _ _ _ => False)) { tmps := (ps.zip #[Value.string x]).foldl (fun t (p, v) => t.setIfInBounds p v) a.tmps, defers := [] } W)
    (hbody : ∀ (l : Nat) (pre : List ByteArray) (x : ByteArray) (W : World), I pre W → (∃ r, linesB s = pre ++ x :: r) → body.wpIn (Fence.wide.inRound l) (n - 1 - 1) Tryd.prog (linePost Bs I Ip (pre ++ [x]) W) (a₁ x) W)
    (hdone : ∀ (D : Nat) (W : World), w.heap.size ≤ D → I (linesB s) W → W.heap[D]? = some (.deferred (some [])) → Q .normal { a with defers := { target := .collected D, args := #[] } :: a.defers } W)
    (hpanic : ∀ (D : Nat) (ch : List PanicEntry) (W : World), w.heap.size ≤ D → Ip ch W → W.heap[D]? = some (.deferred (some [])) → Q (.panic ch) { a with defers := { target := .collected D, args := #[] } :: a.defers } W) :
    wpX n Tryd.prog (Code.rangeFunc g ps assign body) Q a w := by
  intro b k cs hro hfb
  obtain ⟨rec, hrec⟩ : ∃ rec : LoopState → Option Code → Loop, rec = fun st pe => { state := st, pending := pe, fn := b.fn, tmps := a.tmps, params := ps, assign, body, defers := w.heap.size } := ⟨_, rfl⟩
  obtain ⟨W1, hW1⟩ : ∃ W1, (w.alloc (.deferred (some []))).alloc (.loop (rec .ready none)) = W1 := ⟨_, rfl⟩
  have hL1 : W1.heap[w.heap.size + 1]? = some (.loop (rec .ready none)) := by
    rw [← hW1]; have := World.alloc_heap_new (w.alloc (.deferred (some []))) (.loop (rec .ready none)); rwa [World.size_alloc] at this
  have hK1 : W1.heap[w.heap.size]? = some (.deferred (some [])) := by
    rw [← hW1]; exact (Below.heap_alloc _ _ _ (by simp)).trans (World.alloc_heap_new w _)
  have hI1 : I [] W1 := by rw [← hW1]; exact hI _ _ _ none (hI _ _ _ none h0 (World.grownBy_alloc w _ none) (fun r e => by cases e)) (World.grownBy_alloc _ _ none) (fun r e => by cases e)
  have hBk : W1.heap[Bs]? = w.heap[Bs]? := by rw [← hW1]; exact (Below.heap_alloc _ _ _ (by simp; omega)).trans (Below.heap_alloc _ _ _ hBlt)
  have hB1 : W1.cell? ⟨Bs, 0, none⟩ = some (.string s) := (World.cell?_of_block hBk).trans hB
  have hf1 : W1.frozen? ⟨Bs, 0, none⟩ = false := (World.frozen?_of_block hBk).trans hf
  -- the iterator's contract
  have hcall := lines1_in (n - 1) (w.heap.size + 1) Bs (by omega) hidx
    (fun pre W => I pre W ∧ W.heap[w.heap.size + 1]? = some (.loop (rec .ready none)) ∧ W.heap[w.heap.size]? = some (.deferred (some [])))
    (fun ch W => Ip ch W ∧ W.heap[w.heap.size]? = some (.deferred (some [])))
    (fun pre A B row hs hgr hr => ⟨hI pre A B row hs.1 hgr (fun r e => .inl (hr r e)),
      (hgr.block _ (Array.getElem?_eq_some_iff.1 hs.2.1).1 (fun e => by have := (hr _ e.symm).1; omega)).trans hs.2.1,
      (hgr.block _ (Array.getElem?_eq_some_iff.1 hs.2.2).1 (fun e => by have := (hr _ e.symm).1; omega)).trans hs.2.2⟩)
    s
    (by
      rintro pre x W ⟨hi, hl, hk⟩ hpre
      have hlt : w.heap.size + 1 < W.heap.size := (Array.getElem?_eq_some_iff.1 hl).1
      have hy := run_yield (P := Tryd.prog) (args := #[Value.string x]) hl (by rw [hrec]; simp [hps])
      rw [hrec] at hy
      refine ⟨b.fn, _, assign, body, hy, roundIn_of_wpIn_panics trivial hfb (hassign _ x W _ ⟨_, run_beginRound hl (by rw [hrec]), ?_⟩)⟩
      have hl2 : (W.putObj (w.heap.size + 1) (.loop { rec .ready none with state := .busy })).heap[w.heap.size + 1]? = some (.loop { rec .ready none with state := .busy }) := World.putObj_heap_same hlt
      have hk2 : (W.putObj (w.heap.size + 1) (.loop { rec .ready none with state := .busy })).heap[w.heap.size]? = some (.deferred (some [])) := (World.putObj_heap_other (by omega)).trans hk
      have hB2 : (W.putObj (w.heap.size + 1) (.loop { rec .ready none with state := .busy })).heap[Bs]? = W.heap[Bs]? := World.putObj_heap_other (by omega)
      have hput : ∀ (A : World) (o o' : Obj) (xs : List ByteArray), A.heap[w.heap.size + 1]? = some o → o.isCells = false → I xs A → I xs (A.putObj (w.heap.size + 1) o') := fun A o o' xs ho hc hx =>
        hI xs A _ (some (w.heap.size + 1)) hx (grownBy_putObj' A _ o') (fun r e => by cases e; exact .inr ⟨by omega, o, ho, hc⟩)
      refine wpIn_mono (hbody _ pre x _ (hput W _ _ pre hl rfl hi) hpre) ?_
      rintro e a3 W3 hp
      cases e with
      | normal =>
        obtain ⟨hk3, hb3, hi3⟩ := hp
        have hl3 := hk3.same _ _ hl2 rfl
        have hr := run_endRound (P := Tryd.prog) none hl3
        rw [hrec] at hr
        have hl3' := hl3
        refine ⟨_, _, hr, .inl ⟨rfl, ⟨hput W3 _ _ _ hl3 rfl hi3, ?_, (World.putObj_heap_other (by omega)).trans (hk3.same _ _ hk2 rfl)⟩, ?_, ?_⟩⟩
        · rw [hrec]; exact World.putObj_heap_same (Array.getElem?_eq_some_iff.1 hl3).1
        · exact World.cell?_of_block ((World.putObj_heap_other (show Bs ≠ w.heap.size + 1 by omega)).trans (hb3.trans hB2))
        · exact World.frozen?_of_block ((World.putObj_heap_other (show Bs ≠ w.heap.size + 1 by omega)).trans (hb3.trans hB2))
      | panic ch =>
        obtain ⟨hd, hk3, hip⟩ := hp
        exact ⟨hd, .inr ⟨ch, rfl, hip, hk3.same _ _ hk2 rfl⟩⟩
      | ret => exact hp.elim
      | exit id => exact hp.elim
      | goto t => exact hp.elim
      | outgrown => exact hp.elim)
    W1 hB1 hf1 hsz ⟨hI1, hL1, hK1⟩
  have henter := stepR_rangeFunc (P := Tryd.prog) (b := b) (a := a) (k := k) (cs := cs) (w := w) (g := g) (ps := ps) (assign := assign) (body := body)
    (l := w.heap.size + 1) (mark := [{ target := .collected w.heap.size, args := #[] }]) (w₁ := W1) (w₁' := W1) (w₂ := W1)
    (d := { target := .fn (.func 28) #[.pointer (some ⟨Bs, 0, none⟩)], args := #[.func (.yield (w.heap.size + 1)) #[] #[]] }) (f := 28)
    (args := #[.func (.yield (w.heap.size + 1)) #[] #[]] ++ #[.pointer (some ⟨Bs, 0, none⟩)])
    (by rw [hro, ← hW1, hrec]; exact run_enterLoop_outer _ _ _ _ _)
    (by simp only [resolve, hg]; simp [go_sem])
    (by simp [invoke, go_sem, (enters_of Tryd.func28 (by kernel_rfl) rfl)])
  obtain ⟨e, w₃, fr, hR, hsteps, hfn, hleave⟩ := hcall.2 (b.atR { a with defers := { target := .collected w.heap.size, args := #[] } :: a.defers } (.inRangeFunc (w.heap.size + 1) :: k) :: cs) (room_wide _)
  have h0' := fenced_wide Tryd.prog (lone (b.atR a (.code (.rangeFunc g ps assign body) :: k)) cs w)
  rcases hR with ⟨v, rfl, hi, hl, hk⟩ | ⟨ch, rfl, hip, hk⟩
  · have hend : (Instr.endLoop (w.heap.size + 1)).run Tryd.prog w₃ = .ok none (w₃.putObj (w.heap.size + 1) (.loop { rec .ready none with state := .exhausted })) := by
      have := run_endLoop (P := Tryd.prog) hl (by rw [hrec]; simp)
      rw [hrec] at this ⊢; exact this
    refine ⟨.normal, _, w₃.putObj (w.heap.size + 1) (.loop { rec .ready none with state := .exhausted }), hdone w.heap.size _ (Nat.le_refl _) (hI _ _ _ (some (w.heap.size + 1)) hi (grownBy_putObj' w₃ _ _) (fun r e => by cases e; exact .inr ⟨by omega, _, hl, rfl⟩)) ((World.putObj_heap_other (by omega)).trans hk), ?_⟩
    refine .head h0' henter (StepsIn.trans hsteps (.head (fenced_wide _ _) ?_ (.one (fenced_wide _ _) (stepR_endRangeFunc hend))))
    rw [← finish_atR_inRangeFunc (w.heap.size + 1) v]; exact step_leave_returned hleave
  · refine ⟨.panic ch, _, w₃, hpanic w.heap.size ch w₃ (Nat.le_refl _) hip hk, .inRangeFunc (w.heap.size + 1) :: k, .head h0' henter (StepsIn.trans hsteps (.one (fenced_wide _ _) ?_))⟩
    rw [← Frame.raise_atR]; exact step_leave_panicked hleave
theorem wpX_block {id : Nat} {c : Code} (h : wpX n P c (Exit.inBlock id Q) a w) : wpX n P (Code.block id c) Q a w := by
  intro b k cs hro hf
  have h0 : (lone (b.atR a (.code (.block id c) :: k)) cs w).fenced P Fence.wide := fenced_wide _ _
  obtain ⟨e, a₁, w₁, hq, harr⟩ := h b (.inBlock id :: k) cs hro hf
  cases e with
  | normal => exact ⟨.normal, a₁, w₁, hq, .head h0 stepR_block (StepsIn.trans harr (.one (fenced_wide _ _) stepR_inBlock))⟩
  | exit id' =>
    by_cases hid : id' = id
    · simp only [Exit.inBlock, hid, if_true] at hq
      exact ⟨.normal, a₁, w₁, hq, .head h0 stepR_block (harr.1 k (by simp [exitTo, hid]))⟩
    · simp only [Exit.inBlock, hid, if_false] at hq
      have this : (id == id') = false := by simp; exact fun h => hid h.symm
      have hx : exitTo id' (.inBlock id :: k) = exitTo id' k := by simp [exitTo, this]
      exact ⟨.exit id', a₁, w₁, hq, fun k' hk => .head h0 stepR_block (harr.1 k' (by rw [hx]; exact hk)),
        fun hr' hk => let ⟨k₁, h1, h2⟩ := harr.2 hr' (by rw [hx]; exact hk); ⟨k₁, h1, .head h0 stepR_block h2⟩⟩
  | goto l =>
    have hx : gotoIn l (.inBlock id :: k) = gotoIn l k := by simp [gotoIn]
    exact ⟨_, a₁, w₁, hq, fun k' hk => .head h0 stepR_block (harr.1 k' (by rw [hx]; exact hk)),
      fun hr' hk => let ⟨k₁, h1, h2⟩ := harr.2 hr' (by rw [hx]; exact hk); ⟨k₁, h1, .head h0 stepR_block h2⟩⟩
  | ret => exact ⟨_, a₁, w₁, hq, .of_steps (.one h0 stepR_block) harr⟩
  | panic ch => exact ⟨_, a₁, w₁, hq, .of_steps (.one h0 stepR_block) harr⟩
  | outgrown => exact ⟨_, a₁, w₁, hq, .of_steps (.one h0 stepR_block) harr⟩
end Go.Proofs.YtfkbpjeocljflaaDoor
