/-
  StampClimbs: for every stamp and every list of nodes the law returns true, and its argument reads behind the call as it read before.
-/
import Derived.Test.YtljkipkcabjcaaaRows
import Derived.Test.YtljkipkcabjcaaaKinds
import Derived.Test.YtljkipkcabjcaaaLawClimbs
import Derived.Test.YtljkipkcabjcaaaNums
import Derived.WalkKit
import Derived.ProofKit
import Derived.OpenShut
import Derived.ChangeOld
import Derived.Below
import Derived.SizedLaws
namespace Go.Proofs.Ytljkipkcabjcaaa.RowClimbs
open Go.ChangeShapes Go.WideShapes Go.ChangeAt Go.RowKit Go.Proofs.Ytljkipkcabjcaaa.Open
set_option linter.unusedVariables false
theorem own : ownKnob Try.prog.godebug = none := by kernel_rfl
theorem laidOut : laidOutB Try.prog = true := by kernel_rfl
theorem walk (W : World) (v : Value) (x : (Int × Int × Int) × List Int) (hok : ∃ cs : Array Value, v = .agg cs ∧ cs.size = Try.prog.cellsOf 28) (hK : kRoad.K W x v.cells.toList) (hF : (fun x => FStamp x.1 ∧ FNodes x.2) x) :
    Calls Try.prog 10 #[v] W fun e w' => e = .returned (.bool true) ∧ Below W.heap.size W w' := by
  obtain ⟨cs, hv, _⟩ := hok
  obtain ⟨A, c, h, hl, hr⟩ := kRoad_cells hK
  obtain rfl := agg_of hv h
  obtain ⟨⟨h1, h2, _⟩, _, h3, _⟩ := hF
  exact PStampClimbs.climbs_calls A c x.2 _ _ _ W hr hl (by omega) (b_u64 h1) (b_u32 h2)
set_option maxRecDepth 100000 in
theorem lifted (os : Os) (started : os.Started) (H : Type) (enc : TypeId × Value → H) :
    ReturnsInHanded {} Try.checked os 10 .any (Rows.stampClimbsSpec.pre6 enc Try.prog Try.f10 Rows.stampClimbsRow.domain false) (Rows.stampClimbsSpec.post enc Try.prog Try.f10 false true false false) := by
  refine returnsInHanded_of_change_sized (C := Try.checked) own started (by kernel_rfl) Try.func10
    (ChangeSpec.witness6 (enc := enc) (C := Try.checked) false ⟨#[], #[.agg #[.int .u64 0, .int .u32 0, .int .u32 0, .slice none 0 0]], []⟩ 8 (by kernel_rfl) (by kernel_rfl) (by kernel_rfl) (by kernel_rfl)) ?_
  intro W base args ds gs before hval0 hW hcnd hsz0 _
  have hsz : (DataW.weightsEach Try.prog (Try.f10.params.toList ++ Rows.stampClimbsSpec.plain.varTypes Try.prog) (ds ++ gs)).all (· ≤ reachBytes) = true := hsz0
  have hval : ∀ (j : Nat) t v, Try.f10.params[j]? = some t → args[j]? = some v → Value.okWide Try.prog W .any base t v := hval0
  have hW' := hW
  obtain ⟨p, q, hA0, hV, rfl, hfz, hnd⟩ := hW
  have hA : DataW.TrodAll enc Try.prog W 0 (fun _ => true) true Try.f10.params.toList args.toList ds p := hA0
  rw [Try.params10] at hA hval hsz
  obtain ⟨v0, vs0, d0, ds0, p0, q0, hargs, rfl, rfl, h0, r0⟩ := trodAll_cons hA
  obtain ⟨rfl, rfl, rfl⟩ := trodAll_nil r0
  obtain rfl : args = #[v0] := by cases args; simp_all
  obtain ⟨rfl, rfl⟩ := trodVars_none hV
  have lt0 : ∀ x ∈ p0, x.block < W.heap.size := by obtain ⟨m, hm⟩ := h0; exact DataW.trod_lt m _ _ _ hm
  have hv0 : ∃ cs : Array Value, v0 = .agg cs ∧ cs.size = Try.prog.cellsOf 28 := okWide_struct Try.underlying28 (hval 0 28 v0 rfl rfl)
  obtain ⟨x, hK, hF⟩ := opens_arg opens28 hsz h0
  clear hA0 hval0 hsz0 hsz
  refine (walk W v0 x hv0 hK hF).mono fun e W' ⟨he, bel⟩ => ?_
  subst he
  exact ⟨_, rfl, _, _, _, [], _, [], hW', trodAll_mk1 (shut_bool Try.underlying4 _), (trodAll_cons_mk (Below.trod laidOut (by kernel_rfl) (of_decide_eq_true (by kernel_rfl)) h0 bel lt0) trodAll_mk0), rfl, bel.frame _, fun h => by cases h⟩
theorem over : Rows.stampClimbsRow.holds Try.pinned (OpenSpec.ofChange Rows.stampClimbsSpec) :=
  OpenClaim.holds_of_wide 10 Try.f10 rfl rfl rfl rfl rfl rfl rfl ⟨rfl, rfl, rfl, rfl, rfl⟩ rfl rfl rfl rfl rfl (by kernel_rfl) Try.func10 (by kernel_rfl)
    (of_decide_eq_true (by kernel_rfl)) (by unfold Func.isWrapper; first | (rw [if_pos (by decide +kernel)]; kernel_rfl) | (rw [if_neg (by decide +kernel)]; exact ⟨rfl, rfl⟩))
    (fun os started H enc _ => lifted os started H enc)
theorem proved : Rows.StampClimbsSaid := over
end Go.Proofs.Ytljkipkcabjcaaa.RowClimbs
namespace Go.Proofs.Ytljkipkcabjcaaa
theorem stampClimbs_holds : Rows.StampClimbsSaid := RowClimbs.proved
#print axioms stampClimbs_holds
end Go.Proofs.Ytljkipkcabjcaaa
