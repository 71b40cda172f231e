/-
  TableText: for every schema and text within the bound the law returns true, and its argument reads behind the call as it read before; the listed variables are tied to the program's text: the card.
-/
import Derived.Test.YtfkbpjeocljflaaDoorOpen
import Derived.Test.YtfkbpjeocljflaaDoorLaw
import Derived.KernelRfl
import Derived.Lib.LaidTab
import Derived.Lib.LaidU8
import Derived.LaidLaws
import Derived.MakeChecks
import Derived.Shelf.Vars
import Derived.HandedShaped
import Derived.OpenShut
import Derived.Test.YtfkbpjeocljflaaDoorRows
import Derived.Test.YtfkbpjeocljflaaDoorCards
import Derived.Test.YtfkbpjeocljflaaDoorTie
import Derived.WalkKit
import Derived.ProofKit
import Derived.ChangeOld
import Derived.Below
import Derived.SizedLaws
import Derived.Lay
import Derived.SevenTiedAt
import Derived.Deep.DeepHandedRow
/-
  The types of the law's argument, what they read as within the bound; what the listed variables give the walks.
-/
namespace Go.Proofs.YtfkbpjeocljflaaDoor.Open
open Go.RowKit Go.Proofs.YtfkbpjeocljflaaDoor.PTableText Go.Proofs.YtfkbpjeocljflaaDoorW.PrintWords
set_option linter.unusedVariables false
def FS (s : ByteArray) : Prop := s.size ≤ 1048576
def FI (n : Int) : Prop := (Lit.int .i64 n).wf = true
def FCol (x : S56) : Prop := FS x.f0
def FIdx (x : S40) : Prop := FS x.f0 ∧ x.f1.length ≤ 1048576
theorem opens_weak {α : Type} {P : Program} {t : TypeId} {d : Kd α} {F G : α → Prop} (h : Opens P t d F) (hFG : ∀ a, F a → G a) : Opens P t d G :=
  ⟨h.1, fun enc w base spare held fuel cs x hx hw => by
    obtain ⟨a, hK, hF⟩ := h.2 enc w base spare held fuel cs x hx hw
    exact ⟨a, hK, hFG a hF⟩⟩
theorem opens9 : Opens Tryd.prog 9 Kd.string FS := opens_string Tryd.underlying9 (by kernel_rfl)
theorem opens4 : Opens Tryd.prog 4 Kd.bool (fun _ => True) := opens_bool Tryd.underlying4 (by kernel_rfl)
theorem opens3 : Opens Tryd.prog 3 (Kd.int .i64) FI := opens_int Tryd.underlying3 (by kernel_rfl)
theorem opens54 : Opens Tryd.prog 54 (Kd.int .i64) FI := opens_int Tryd.underlying54 (by kernel_rfl)
theorem opens56 : Opens Tryd.prog 56 k56 FCol :=
  opens_weak (opens_iso (fun x : S56 => (x.f0, x.f1, x.f2)) (fun a => ⟨a.1, a.2.1, a.2.2⟩) (fun _ => rfl)
    (opens_struct Tryd.underlying56 (by kernel_rfl) (opensFs_cons (n1 := 1) rfl rfl rfl opens9 (opensFs_cons (n1 := 1) rfl rfl rfl opens54 (opensFs_one rfl rfl opens4))))) (fun _ h => h.1)
theorem opens38 : Opens Tryd.prog 38 (Kd.slice 3 (Kd.int .i64)) (fun l => l.length ≤ 1048576 ∧ ∀ x ∈ l, FI x) := opens_slice Tryd.underlying38 (by kernel_rfl) opens3
theorem opens40 : Opens Tryd.prog 40 k40 FIdx :=
  opens_weak (opens_iso (fun x : S40 => (x.f0, x.f1, x.f2)) (fun a => ⟨a.1, a.2.1, a.2.2⟩) (fun _ => rfl)
    (opens_struct Tryd.underlying40 (by kernel_rfl) (opensFs_cons (n1 := 1) rfl rfl rfl opens9 (opensFs_cons (n1 := 1) rfl rfl rfl opens38 (opensFs_one rfl rfl opens4))))) (fun _ h => ⟨h.1, h.2.1.1⟩)
theorem opens22 : Opens Tryd.prog 22 (Kd.slice 56 k56) (fun l => l.length ≤ 1048576 ∧ ∀ x ∈ l, FCol x) := opens_slice Tryd.underlying22 (by kernel_rfl) opens56
theorem opens23 : Opens Tryd.prog 23 (Kd.slice 40 k40) (fun l => l.length ≤ 1048576 ∧ ∀ x ∈ l, FIdx x) := opens_slice Tryd.underlying23 (by kernel_rfl) opens40
def k25 : Kd (ByteArray × List S56 × Int × List S40) := Kd.pair Kd.string (Kd.pair (Kd.slice 56 k56) (Kd.pair (Kd.int .i64) (Kd.slice 40 k40)))
def F25 (x : ByteArray × List S56 × Int × List S40) : Prop := FS x.1 ∧ (x.2.1.length ≤ 1048576 ∧ ∀ c ∈ x.2.1, FCol c) ∧ FI x.2.2.1 ∧ (x.2.2.2.length ≤ 1048576 ∧ ∀ c ∈ x.2.2.2, FIdx c)
theorem fields25 : ∃ f0 f1 f2 f3 : Field, Tryd.prog.underlying 25 = some (.struct #[f0, f1, f2, f3]) ∧ f0.type = 9 ∧ f1.type = 22 ∧ f2.type = 3 ∧ f3.type = 23 ∧ f0.offset = 0 ∧ f1.offset = 1 ∧ f2.offset = 2 ∧ f3.offset = 3 :=
  ⟨_, _, _, _, Tryd.underlying25, rfl, rfl, rfl, rfl, rfl, rfl, rfl, rfl⟩
theorem opens25 : Opens Tryd.prog 25 k25 F25 := by
  obtain ⟨f0, f1, f2, f3, hu, t0, t1, t2, t3, o0, o1, o2, o3⟩ := fields25
  have h := opensFs_cons (n1 := 1) t0 o0 rfl opens9 (opensFs_cons (n1 := 1) t1 o1 rfl opens22 (opensFs_cons (n1 := 1) t2 o2 rfl opens3 (opensFs_one t3 o3 opens23)))
  exact opens_weak (opens_struct hu (by kernel_rfl) h) (fun _ h => h)
def k27 : Kd ((ByteArray × List S56 × Int × List S40) × ByteArray) := Kd.pair k25 Kd.string
theorem fields27 : ∃ f0 f1 : Field, Tryd.prog.underlying 27 = some (.struct #[f0, f1]) ∧ f0.type = 25 ∧ f1.type = 9 ∧ f0.offset = 0 ∧ f1.offset = 4 :=
  ⟨_, _, Tryd.underlying27, rfl, rfl, rfl, rfl⟩
theorem opens27 : Opens Tryd.prog 27 k27 (fun x => F25 x.1 ∧ FS x.2) := by
  obtain ⟨f0, f1, hu, t0, t1, o0, o1⟩ := fields27
  have h := opensFs_cons (n1 := 4) t0 o0 rfl opens25 (opensFs_one t1 o1 opens9)
  exact opens_weak (opens_struct hu (by kernel_rfl) h) (fun _ h => h)
theorem k27_cells {w : World} {x : (ByteArray × List S56 × Int × List S40) × ByteArray} {cs : List Value} (h : k27.K w x cs) :
    ∃ A c A' c', cs = [.string x.1.1, .slice A x.1.2.1.length c, .int .i64 x.1.2.2.1, .slice A' x.1.2.2.2.length c', .string x.2] ∧ x.1.2.1.length ≤ c ∧ Kd.C k56 w A x.1.2.1.length x.1.2.1 ∧ x.1.2.2.2.length ≤ c' ∧ Kd.C k40 w A' x.1.2.2.2.length x.1.2.2.2 := by
  obtain ⟨_, _, rfl, ⟨_, _, rfl, rfl, ⟨_, _, rfl, ⟨A, c, rfl, hl, hC⟩, ⟨_, _, rfl, rfl, ⟨A', c', rfl, hl', hC'⟩⟩⟩⟩, rfl⟩ := h
  exact ⟨A, c, A', c', rfl, hl, hC, hl', hC'⟩

/-- The variables that the row lists. -/
def vars : List (String × DataW Unit) := Rows.tableTextUptoRow.laid
theorem tab_of {W : World} (h : laidMet Tryd.prog vars W) : Lib.TabIs Tryd.prog W "internal/strconv.uint64pow10" .u64 Lib.pow10Tab := by
  obtain ⟨g, t, cs, fuel, p, h1, h2, h3, h4⟩ := Lib.laidMet.reads h (n := "internal/strconv.uint64pow10") (d := Rows.laid_internal_strconv_uint64pow10) (by simp [vars, Rows.tableTextUptoRow])
  have e : (Rows.laid_internal_strconv_uint64pow10 : DataW Unit) = Lib.tabData .u64 Lib.pow10Tab := by rfl
  rw [e] at h4
  obtain rfl := Option.some.inj ((show Tryd.prog.globalNamed "internal/strconv.uint64pow10" = some 4 by kernel_rfl).symm.trans h1)
  obtain rfl := Option.some.inj ((show (Tryd.prog.globals[4]?).map (·.type) = some 122 by kernel_rfl).symm.trans h2)
  have hc := Lib.cells_of_tab Tryd.underlying122 Tryd.underlying108 (by kernel_rfl) (by kernel_rfl) h4
  unfold Lib.TabIs
  rw [h3, ← hc]
theorem err_of {W : World} (h : laidMet Tryd.prog vars W) {n : String} {g0 : Nat} {nm : String} {d : DataW Unit} (hm : (n, DataW.iface nm d) ∈ vars) (hg : Tryd.prog.globalNamed n = some g0) (ht : (Tryd.prog.globals[g0]?).map (·.type) = some 64) : ∃ t p, W.var? Tryd.prog n = some #[.iface t p] := by
  obtain ⟨g, t, cs, fuel, p, h1, h2, h3, h4⟩ := Lib.laidMet.reads h hm
  obtain rfl := Option.some.inj (hg.symm.trans h1)
  obtain rfl := Option.some.inj (ht.symm.trans h2)
  obtain ⟨_, u, v, hc, _⟩ := iface_of_trod Tryd.underlying64 h4
  have : cs = #[.iface u v] := Array.ext' hc
  exact ⟨u, v, by rw [h3, this]⟩
theorem strings_of_trod {H : Type} {enc : TypeId × Value → H} {P : Program} {w : World} {base : Nat} {sp : Nat → Bool} {held : Bool} {fuel : Nat} {t e : TypeId} {n : Nat} {cs : List Value} {ls : List (List UInt8)} {p : List MemPlace}
    (ht : P.underlying t = some (.array n e)) (he : P.underlying e = some .string) (hce : P.cellsOf e = 1)
    (h : DataW.trod enc P w base sp held fuel t cs = some (.agg (ls.map fun l => .lit (.string l)), p)) (i : Nat) (hi : i < n) : cs[i]? = (ls[i]?).map fun l => .string (mkB l) := by
  obtain ⟨xs, m, rfl, hx, hl, hxl, hall⟩ := DataW.trod_array ht h
  have hxs : xs.map (·.1) = ls.map fun l => (DataW.lit (.string l) : DataW H) := by
    have := congrArg Prod.fst hx
    simpa using this.symm
  have h1 := hall i hi
  rw [List.getElem?_eq_getElem (by omega)] at h1
  obtain ⟨s, hc, hd, _⟩ := DataW.trod_string he h1
  rw [hce, Nat.mul_one] at hc
  have h2 : cs[i]? = some (.string s) := by
    have := congrArg (·[0]?) hc
    simpa [List.getElem?_take, List.getElem?_drop] using this
  have h3 : (xs.map (·.1))[i]? = some (DataW.lit (.string s.data.toList) : DataW H) := by
    rw [List.getElem?_map, List.getElem?_eq_getElem (by omega), Option.map_some, hd]
  rw [hxs, List.getElem?_map] at h3
  obtain ⟨l, hl1, hl2⟩ := Option.map_eq_some_iff.1 h3
  rw [h2, hl1, Option.map_some]
  injection hl2 with hl2
  injection hl2 with hl2
  rw [hl2, mkB_of]
theorem kinds_of {W : World} (h : laidMet Tryd.prog vars W) : ∀ i, i < 4 → W.cell? ⟨0, i, none⟩ = some (.string (kindsB.getD i ByteArray.empty)) := by
  obtain ⟨g, t, cs, fuel, p, h1, h2, h3, h4⟩ := Lib.laidMet.reads h (n := "tidemark/table.kinds") (d := Rows.laid_tidemark_table_kinds) (by simp [vars, Rows.tableTextUptoRow])
  have e : (Rows.laid_tidemark_table_kinds : DataW Unit) = .agg (([[], boolL, intL, textL] : List (List UInt8)).map fun l => .lit (.string l)) := by rfl
  rw [e] at h4
  obtain rfl := Option.some.inj ((show Tryd.prog.globalNamed "tidemark/table.kinds" = some 0 by kernel_rfl).symm.trans h1)
  obtain rfl := Option.some.inj ((show (Tryd.prog.globals[0]?).map (·.type) = some 69 by kernel_rfl).symm.trans h2)
  intro i hi
  have hc := strings_of_trod Tryd.underlying69 Tryd.underlying9 (by kernel_rfl) h4 i hi
  rw [World.var?_cell (show Tryd.prog.globalNamed "tidemark/table.kinds" = some 0 by kernel_rfl) h3 i, ← Array.getElem?_toList, hc]
  rcases i with _ | _ | _ | _ | i
  · rfl
  · rfl
  · rfl
  · rfl
  · omega
theorem laid_of {W : World} (h : laidMetH Tryd.prog vars W) : Laid W ∧ Errs W := by
  rw [MakeChecks.laidMetH_plain _ _ _ (by kernel_rfl)] at h
  refine ⟨⟨kinds_of h, tab_of h⟩, ?_, ?_⟩
  · exact err_of h (n := "strconv.ErrSyntax") (g0 := 2) (by simp [vars, Rows.tableTextUptoRow, Rows.laid_strconv_ErrSyntax]; exact ⟨rfl, rfl⟩) (by kernel_rfl) (by kernel_rfl)
  · exact err_of h (n := "strconv.ErrRange") (g0 := 3) (by simp [vars, Rows.tableTextUptoRow, Rows.laid_strconv_ErrRange]; exact ⟨rfl, rfl⟩) (by kernel_rfl) (by kernel_rfl)
theorem most_of {W : World} (hs : W.ShapedOpen Tryd.prog) : ∃ m, W.cell? ⟨1, 0, none⟩ = some (.int .i64 m) :=
  cell_of_shapedOpen_int (P := Tryd.prog) (g := 1) (t := 3) (zero := #[.int .i64 0]) hs (of_decide_eq_true (by kernel_rfl)) (by kernel_rfl) rfl (by kernel_rfl) (by kernel_rfl) Tryd.underlying3
end Go.Proofs.YtfkbpjeocljflaaDoor.Open

namespace Go.Proofs.YtfkbpjeocljflaaDoor.RowText
open Go.ChangeShapes Go.WideShapes Go.ChangeAt Go.RowKit Go.Proofs.YtfkbpjeocljflaaDoor.Open
set_option linter.unusedVariables false
theorem own : ownKnob Tryd.prog.godebug = none := by kernel_rfl
theorem laidOut : laidOutB Tryd.prog = true := by kernel_rfl
theorem walk (W : World) (v : Value) (x : (ByteArray × List PTableText.S56 × Int × List PTableText.S40) × ByteArray) (hok : ∃ cs : Array Value, v = .agg cs ∧ cs.size = Tryd.prog.cellsOf 27) (hK : k27.K W x v.cells.toList) (hF : F25 x.1 ∧ FS x.2) (hL : Laid W ∧ Errs W) (hM : ∃ m, W.cell? ⟨1, 0, none⟩ = some (.int .i64 m)) :
    Calls Tryd.prog 3 #[v] W fun e w' => e = .returned (.bool true) ∧ Below W.heap.size W w' := by
  obtain ⟨cs, hv, _⟩ := hok
  obtain ⟨A, c, A', c', h, hc, hC, hc', hC'⟩ := k27_cells hK
  obtain rfl := agg_of hv h
  obtain ⟨⟨name, cols, key, idxs⟩, text⟩ := x
  obtain ⟨⟨h1, ⟨h2, h3⟩, h4, h5, h6⟩, h7⟩ := hF
  obtain ⟨m, hm⟩ := hM
  simp only [FS] at h1 h2 h5 h7
  refine table_calls ⟨name, cols, key, idxs⟩ ⟨?_, ?_, fun c hc => ?_, ?_, fun x hx => ⟨?_, ?_⟩⟩ text (by omega) A A' c c' W m hC hc hC' hc' hL.1 hL.2 hm
  · show name.size ≤ _; omega
  · show cols.length ≤ _; omega
  · have := h3 c hc; unfold FCol FS at this; omega
  · show idxs.length ≤ _; omega
  · have := (h6 x hx).1; unfold FS at this; omega
  · have := (h6 x hx).2; omega
theorem reads (os : Os) {H : Type} (enc : TypeId × Value → H) : ∃ places, DataW.whole enc Tryd.prog ((World.laidAll Tryd.prog os vars).forCall (fun _ _ => 0) ⟨#[], #[.agg #[.string ⟨#[]⟩, .slice none 0 0, .int .i64 0, .slice none 0 0, .string ⟨#[]⟩]], []⟩).memory Tryd.f3.params.toList Rows.tableTextSpec.vars false #[Value.agg #[.string ⟨#[]⟩, .slice none 0 0, .int .i64 0, .slice none 0 0, .string ⟨#[]⟩]].toList 8 = some ([.agg [.agg [.lit (.string []), .nil, .lit (.int .i64 0), .nil], .lit (.string [])]], [], places) :=
  ⟨[], by kernel_rfl⟩
theorem laid_met (os : Os) : laidMetH Tryd.prog vars ((World.laidAll Tryd.prog os vars).forCall (fun _ _ => 0) ⟨#[], #[.agg #[.string ⟨#[]⟩, .slice none 0 0, .int .i64 0, .slice none 0 0, .string ⟨#[]⟩]], []⟩).memory := by
  rw [MakeChecks.laidMetH_plain _ _ _ (by kernel_rfl)]
  exact laidMet_laidAll _ (by kernel_rfl) (by kernel_rfl)
set_option maxRecDepth 100000 in
theorem liftedUpto (os : Os) (started : os.Started) (H : Type) (enc : TypeId × Value → H) (F : Stop.Interp) :
    ReturnsInHanded {} Tryd.checked os 3 .any ((Rows.OpenSpec.upto Rows.tableTextSpec).preRow enc Tryd.prog Tryd.f3 Rows.tableTextUptoRow.domain false Rows.tableTextUptoRow.laid) (((Rows.OpenSpec.upto Rows.tableTextSpec).at F).post enc Tryd.prog Tryd.f3 false true false false) := by
  obtain ⟨places, hx⟩ := reads os enc
  refine returnsInHanded_of_row (C := Tryd.checked) (s := Rows.OpenSpec.upto Rows.tableTextSpec) own started (by kernel_rfl) Tryd.func3
    (witness_row_at (enc := enc) (C := Tryd.checked) false (World.laidAll Tryd.prog os vars) #[.agg #[.string ⟨#[]⟩, .slice none 0 0, .int .i64 0, .slice none 0 0, .string ⟨#[]⟩]] (World.laidAll_os _ _ _) (by kernel_rfl) (by kernel_rfl) (by kernel_rfl)
      (OpenSpec.preRow_of_cond 8 hx (by kernel_rfl) (fun k hk => by cases hk; kernel_rfl) (by kernel_rfl) (laid_met os))) ?_
  intro W base args ds gs before hval0 hW _ hcond _ hL hsh _
  have hbulk0 : Rows.uptoBulkAll (ds ++ gs) ≤ 1048576 := of_decide_eq_true (hcond _ rfl)
  have hval : ∀ (j : Nat) t v, Tryd.f3.params[j]? = some t → args[j]? = some v → Value.okWide Tryd.prog W .any base t v := hval0
  have hW' := hW
  obtain ⟨p, q, hA0, hV, rfl, hfz, hnd⟩ := hW
  have hA : DataW.TrodAll enc Tryd.prog W 0 (fun _ => true) true Tryd.f3.params.toList args.toList ds p := hA0
  rw [Tryd.params3] at hA hval
  obtain ⟨v0, vs0, d0, ds0, p0, q0, hargs, rfl, rfl, h0, r0⟩ := trodAll_cons hA
  obtain ⟨rfl, rfl, rfl⟩ := trodAll_nil r0
  obtain rfl : args = #[v0] := by cases args; simp_all
  obtain ⟨rfl, rfl⟩ := trodVars_none hV
  have lt0 : ∀ x ∈ p0, x.block < W.heap.size := by obtain ⟨m, hm⟩ := h0; exact DataW.trod_lt m _ _ _ hm
  have hv0 : ∃ cs : Array Value, v0 = .agg cs ∧ cs.size = Tryd.prog.cellsOf 27 := okWide_struct Tryd.underlying27 (hval 0 27 v0 rfl rfl)
  obtain ⟨x, hK, hF⟩ := opens_arg opens27 hbulk0 h0
  clear hA0 hval0 hbulk0
  refine (walk W v0 x hv0 hK hF (laid_of hL) (most_of hsh)).mono fun e W' ⟨he, bel⟩ => ?_
  subst he
  exact ⟨_, rfl, _, _, _, [], _, [], hW', trodAll_mk1 (shut_bool Tryd.underlying4 _), (trodAll_cons_mk (Below.trod laidOut (by kernel_rfl) (of_decide_eq_true (by kernel_rfl)) h0 bel lt0) trodAll_mk0), rfl, bel.frame _, fun h => by cases h⟩
theorem saidUpto : Rows.TableTextUptoSaid :=
  OpenClaim.holds_of_cond 3 Tryd.f3 rfl rfl rfl rfl rfl rfl rfl ⟨rfl, rfl, rfl, rfl, rfl⟩ rfl rfl rfl rfl rfl (by kernel_rfl) Tryd.func3 (by kernel_rfl)
    (of_decide_eq_true (by kernel_rfl)) (by unfold Func.isWrapper; first | (rw [if_pos (by decide +kernel)]; kernel_rfl) | (rw [if_neg (by decide +kernel)]; exact ⟨rfl, rfl⟩))
    (fun os started H enc _ F => by rw [OpenClaim.pre_eq_preRow]; exact liftedUpto os started H enc F)
theorem plain (f : FuncId) (fn : Func) (hf : Tryd.pinned.checked.prog.funcNamed "tidemark/tidemarklaw26.TableText" = some f) (hfn : Tryd.pinned.checked.prog.funcs[f]? = some fn) :
    true = Tryd.pinned.checked.prog.looks [] ∧ ∀ (j : Nat) t, fn.params[j]? = some t → Tryd.pinned.checked.prog.wantsStandIn t = false := by
  obtain rfl : f = 3 := Option.some.inj ((show Tryd.prog.funcNamed "tidemark/tidemarklaw26.TableText" = some 3 by kernel_rfl).symm.trans hf) |>.symm
  obtain rfl : fn = Tryd.f3 := (Option.some.inj (Tryd.func3.symm.trans hfn)).symm
  refine ⟨by kernel_rfl, fun j t ht => ?_⟩
  rw [Tryd.params3] at ht
  obtain rfl : t = 27 := by simpa using Array.mem_of_getElem? ht
  exact (show Tryd.prog.wantsStandIn 27 = false by kernel_rfl)
theorem cardUpto : Rows.TableTextUptoCardSaid :=
  Claim7.holds_tied_plain_at .later [] _ _ _ _ saidUpto (fun _ h => by cases h) (by kernel_rfl) (fun _ h => by cases h) tableTextUpto_row_tie rfl ⟨rfl, rfl⟩ (by kernel_rfl) rfl plain (by kernel_rfl)
end Go.Proofs.YtfkbpjeocljflaaDoor.RowText
namespace Go.Proofs.YtfkbpjeocljflaaDoor
theorem tableText_holds : Rows.TableTextUptoCardSaid := RowText.cardUpto
#print axioms tableText_holds
end Go.Proofs.YtfkbpjeocljflaaDoor
