/-
  The types of the arguments of the two laws, what they read as; what the listed variables give the walks.
-/
import Derived.Test.YtljkipkcabjcaaaDoorOpen
import Derived.Test.YtljkipkcabjcaaaDoorParse
import Derived.Test.YtljkipkcabjcaaaDoorRows
import Derived.KernelRfl
import Derived.Lib.LaidTab
import Derived.Lib.LaidU8
import Derived.LaidLaws
import Derived.MakeChecks
import Derived.Shelf.Vars
import Derived.HandedShaped
namespace Go.Proofs.YtljkipkcabjcaaaDoor.Open
open Go.RowKit Go.Proofs.YtljkipkcabjcaaaDoorW.PrintWords
def FU64 (n : Int) : Prop := (Lit.int .u64 n).wf = true
def FU32 (n : Int) : Prop := (Lit.int .u32 n).wf = true
def FStamp (x : Int × Int × Int) : Prop := FU64 x.1 ∧ FU32 x.2.1 ∧ FU32 x.2.2
def kStamp : Kd (Int × Int × Int) := Kd.pair (Kd.int .u64) (Kd.pair (Kd.int .u32) (Kd.int .u32))
theorem fields25 : ∃ f0 f1 f2 : Field, Tryd.prog.underlying 25 = some (.struct #[f0, f1, f2]) ∧ f0.type = 22 ∧ f1.type = 23 ∧ f2.type = 23 ∧ f0.offset = 0 ∧ f1.offset = 1 ∧ f2.offset = 2 :=
  ⟨_, _, _, Tryd.underlying25, by kernel_rfl, by kernel_rfl, by kernel_rfl, by kernel_rfl, by kernel_rfl, by kernel_rfl⟩
theorem opens25 : Opens Tryd.prog 25 kStamp FStamp := by
  obtain ⟨f0, f1, f2, hu, t0, t1, t2, o0, o1, o2⟩ := fields25
  have c22 : Tryd.prog.cellsOf 22 = 1 := by kernel_rfl
  have c23 : Tryd.prog.cellsOf 23 = 1 := by kernel_rfl
  have h := opensFs_cons (n1 := 1) t0 o0 rfl (opens_int Tryd.underlying22 c22) (opensFs_cons (n1 := 1) t1 o1 rfl (opens_int Tryd.underlying23 c23) (opensFs_one t2 o2 (opens_int Tryd.underlying23 c23)))
  exact opens_struct hu (by kernel_rfl) h
theorem kStamp_cells {w : World} {x : Int × Int × Int} {cs : List Value} (h : kStamp.K w x cs) : cs = [.int .u64 x.1, .int .u32 x.2.1, .int .u32 x.2.2] := by
  obtain ⟨_, _, rfl, rfl, ⟨_, _, rfl, rfl, rfl⟩⟩ := h
  rfl

theorem b_u64 {n : Int} (h : FU64 n) : 0 ≤ n ∧ n ≤ 18446744073709551615 := by
  unfold FU64 at h
  simp only [Lit.wf, IntKind.min, IntKind.max, IntKind.signed, IntKind.bits, Bool.and_eq_true] at h
  simp at h
  omega
theorem b_u32 {n : Int} (h : FU32 n) : 0 ≤ n ∧ n ≤ 4294967295 := by
  unfold FU32 at h
  simp only [Lit.wf, IntKind.min, IntKind.max, IntKind.signed, IntKind.bits, Bool.and_eq_true] at h
  simp at h
  omega
theorem opens9 : Opens Tryd.prog 9 Kd.string (fun s => s.size ≤ 140737488351232) := opens_string Tryd.underlying9 (by kernel_rfl)
/-- The variables that the rows list. -/
def vars : List (String × DataW Unit) := Rows.stampTextsRow.laid
theorem tab_of {W : World} (h : laidMet Tryd.prog vars W) : Lib.TabIs Tryd.prog W "internal/strconv.uint64pow10" .u64 Lib.pow10Tab := by
  obtain ⟨g, t, cs, fuel, p, h1, h2, h3, h4⟩ := Lib.laidMet.reads h (n := "internal/strconv.uint64pow10") (d := Rows.laid_internal_strconv_uint64pow10) (by simp [vars, Rows.stampTextsRow])
  have e : (Rows.laid_internal_strconv_uint64pow10 : DataW Unit) = Lib.tabData .u64 Lib.pow10Tab := by rfl
  rw [e] at h4
  obtain rfl := Option.some.inj ((show Tryd.prog.globalNamed "internal/strconv.uint64pow10" = some 0 by kernel_rfl).symm.trans h1)
  obtain rfl := Option.some.inj ((show (Tryd.prog.globals[0]?).map (·.type) = some 56 by kernel_rfl).symm.trans h2)
  have hc := Lib.cells_of_tab Tryd.underlying56 Tryd.underlying22 (by kernel_rfl) (by kernel_rfl) h4
  unfold Lib.TabIs
  rw [h3, ← hc]
theorem err_of {W : World} (h : laidMet Tryd.prog vars W) {n : String} {g0 : Nat} {nm : String} {d : DataW Unit} (hm : (n, DataW.iface nm d) ∈ vars) (hg : Tryd.prog.globalNamed n = some g0) (ht : (Tryd.prog.globals[g0]?).map (·.type) = some 42) : ∃ ev, W.cell? ⟨g0, 0, none⟩ = some ev ∧ (ev = .nilIface ∨ ∃ te pe, ev = .iface te pe) := by
  obtain ⟨g, t, cs, fuel, p, h1, h2, h3, h4⟩ := Lib.laidMet.reads h hm
  obtain rfl := Option.some.inj (hg.symm.trans h1)
  obtain rfl := Option.some.inj (ht.symm.trans h2)
  obtain ⟨_, u, v, hc, _⟩ := iface_of_trod Tryd.underlying42 h4
  refine ⟨.iface u v, ?_, .inr ⟨u, v, rfl⟩⟩
  rw [World.var?_cell hg h3 0]
  have : cs = #[.iface u v] := Array.ext' hc
  rw [this]
  rfl
theorem laid_of {W : World} (h : laidMetH Tryd.prog vars W) (hs : W.ShapedOpen Tryd.prog) : PStampParses.Laid W := by
  rw [MakeChecks.laidMetH_plain _ _ _ (by kernel_rfl)] at h
  refine ⟨⟨?_, ?_⟩, ?_, tab_of h⟩
  · exact err_of h (n := "strconv.ErrSyntax") (by simp [vars, Rows.stampTextsRow, Rows.laid_strconv_ErrSyntax]; exact ⟨rfl, rfl⟩) (by kernel_rfl) (by kernel_rfl)
  · exact err_of h (n := "strconv.ErrRange") (by simp [vars, Rows.stampTextsRow, Rows.laid_strconv_ErrRange]; exact ⟨rfl, rfl⟩) (by kernel_rfl) (by kernel_rfl)
  · exact cell_of_shapedOpen_int (P := Tryd.prog) (g := 1) (t := 3) (zero := #[.int .i64 0]) hs (of_decide_eq_true (by kernel_rfl)) (by kernel_rfl) rfl (by kernel_rfl) (by kernel_rfl) Tryd.underlying3
section
variable {H : Type} {enc : TypeId × Value → H}
/-- A row with a condition on the first world, whose contract leans on the world's shape besides. -/
theorem returns_laid {C : Checked} {os : Os} {f : FuncId} {fn : Func} {s : ChangeSpec} {conds : List PathCond} {apart fresh handsOn again : Bool} {X : World → Array Value → Prop}
    (hX : ∀ (w w' : World) (args : Array Value), w.heap = w'.heap → X w args → X w' args)
    (own : ownKnob C.prog.godebug = none) (started : os.Started) (noInit : C.prog.inits.idxOf? f = none) (hfn : C.prog.funcs[f]? = some fn)
    (witness : ∃ (w : World) (tape : Tape) (i : Input), w.os = os ∧ (w.forCall tape i).Shaped C.prog ∧ i.vars = [] ∧ Input.okWide C.prog (w.forCall tape i) .any w.heap.size f i ∧
      ((s.pre enc C.prog fn conds apart (w.forCall tape i).memory i.args ∧ X (w.forCall tape i).memory i.args) ∧ sizedMet enc C.prog fn (OpenSpec.ofChange s) apart (w.forCall tape i).memory i.args) ∧ ({} : Assume).holds C.prog (lone (Frame.enter C.prog f i.args .normal) [] (w.forCall tape i)))
    (contract : ∀ (W : World) (base : Nat) (args : Array Value) (ds gs : List (DataW H)) (before : List MemPlace),
      (∀ (j : Nat) t v, fn.params[j]? = some t → args[j]? = some v → Value.okWide C.prog W .any base t v) →
      DataW.Whole enc C.prog fn.params.toList s.vars apart W args.toList ds gs before →
      (DataW.weightsEach C.prog (fn.params.toList ++ s.plain.varTypes C.prog) (ds ++ gs)).all (· ≤ reachBytes) = true → X W args → W.ShapedOpen C.prog →
      Calls C.prog f args W fun e W' => ∃ v, e = .returned v ∧ s.post enc C.prog fn apart fresh handsOn again W args v W') :
    ReturnsInHanded {} C os f .any (fun w args => (s.pre enc C.prog fn conds apart w args ∧ X w args) ∧ sizedMet enc C.prog fn (OpenSpec.ofChange s) apart w args) (s.post enc C.prog fn apart fresh handsOn again) := by
  refine returnsInHanded_of_calls own started noInit witness ?_
  intro w tape i _ hsh _ hok hpre _
  obtain ⟨_, _, _, fn', hfn', _, _, _, _, hval⟩ := hok
  obtain rfl : fn' = fn := Option.some.inj (hfn'.symm.trans hfn)
  obtain ⟨⟨⟨ds, gs, before, hw, hc⟩, hx⟩, hz⟩ := hpre
  have hw' := DataW.Whole.of_heap (w' := w.forCall tape i) (by rfl) hw
  refine (contract (w.forCall tape i) w.heap.size i.args ds gs before hval hw' (hz.weights hw) (hX _ _ _ (by rfl) hx) hsh).mono fun e W' ⟨v, he, hp⟩ => ?_
  subst he
  exact ChangeSpec.post_blind hp
end
end Go.Proofs.YtljkipkcabjcaaaDoor.Open
