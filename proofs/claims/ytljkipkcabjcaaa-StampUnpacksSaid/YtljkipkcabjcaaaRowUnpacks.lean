/-
  StampUnpacks: for every text the law returns true, and its argument reads behind the call as it read before.
-/
import Derived.Test.YtljkipkcabjcaaaRows
import Derived.Test.YtljkipkcabjcaaaKinds
import Derived.Test.YtljkipkcabjcaaaLawUnpacks
import Derived.Test.YtljkipkcabjcaaaNums
import Derived.WalkKit
import Derived.ProofKit
import Derived.OpenShut
import Derived.ChangeOld
import Derived.Below
import Derived.SizedLaws
namespace Go.Proofs.Ytljkipkcabjcaaa.RowUnpacks
open Go.ChangeShapes Go.WideShapes Go.ChangeAt Go.RowKit Go.Proofs.Ytljkipkcabjcaaa.Open
set_option linter.unusedVariables false
theorem own : ownKnob Try.prog.godebug = none := by kernel_rfl
theorem laidOut : laidOutB Try.prog = true := by kernel_rfl
theorem walk (W : World) (v : Value) (x : ByteArray) (hok : ∃ s, v = .string s) (hK : Go.Proofs.YtljkipkcabjcaaaW.PrintWords.Kd.string.K W x v.cells.toList) (hF : (fun s : ByteArray => s.size ≤ 140737488351232) x) :
    Calls Try.prog 9 #[v] W fun e w' => e = .returned (.bool true) ∧ Below W.heap.size W w' := by
  obtain ⟨s, rfl⟩ := hok
  have h : (Value.string s).cells.toList = [Value.string x] := hK
  simp [Value.cells] at h
  subst h
  exact Arr.unpacks_calls s W hF
set_option maxRecDepth 100000 in
theorem lifted (os : Os) (started : os.Started) (H : Type) (enc : TypeId × Value → H) :
    ReturnsInHanded {} Try.checked os 9 .any (Rows.stampUnpacksSpec.pre6 enc Try.prog Try.f9 Rows.stampUnpacksRow.domain false) (Rows.stampUnpacksSpec.post enc Try.prog Try.f9 false true false false) := by
  refine returnsInHanded_of_change_sized (C := Try.checked) own started (by kernel_rfl) Try.func9
    (ChangeSpec.witness6 (enc := enc) (C := Try.checked) false ⟨#[], #[.string ByteArray.empty], []⟩ 8 (by kernel_rfl) (by kernel_rfl) (by kernel_rfl) (by kernel_rfl)) ?_
  intro W base args ds gs before hval0 hW hcnd hsz0 _
  have hsz : (DataW.weightsEach Try.prog (Try.f9.params.toList ++ Rows.stampUnpacksSpec.plain.varTypes Try.prog) (ds ++ gs)).all (· ≤ reachBytes) = true := hsz0
  have hval : ∀ (j : Nat) t v, Try.f9.params[j]? = some t → args[j]? = some v → Value.okWide Try.prog W .any base t v := hval0
  have hW' := hW
  obtain ⟨p, q, hA0, hV, rfl, hfz, hnd⟩ := hW
  have hA : DataW.TrodAll enc Try.prog W 0 (fun _ => true) true Try.f9.params.toList args.toList ds p := hA0
  rw [Try.params9] at hA hval hsz
  obtain ⟨v0, vs0, d0, ds0, p0, q0, hargs, rfl, rfl, h0, r0⟩ := trodAll_cons hA
  obtain ⟨rfl, rfl, rfl⟩ := trodAll_nil r0
  obtain rfl : args = #[v0] := by cases args; simp_all
  obtain ⟨rfl, rfl⟩ := trodVars_none hV
  have lt0 : ∀ x ∈ p0, x.block < W.heap.size := by obtain ⟨m, hm⟩ := h0; exact DataW.trod_lt m _ _ _ hm
  have hv0 : ∃ s, v0 = .string s := okWide_string Try.underlying9 (hval 0 9 v0 rfl rfl)
  obtain ⟨x, hK, hF⟩ := opens_arg opens9 hsz h0
  clear hA0 hval0 hsz0 hsz
  refine (walk W v0 x hv0 hK hF).mono fun e W' ⟨he, bel⟩ => ?_
  subst he
  exact ⟨_, rfl, _, _, _, [], _, [], hW', trodAll_mk1 (shut_bool Try.underlying4 _), (trodAll_cons_mk (Below.trod laidOut (by kernel_rfl) (of_decide_eq_true (by kernel_rfl)) h0 bel lt0) trodAll_mk0), rfl, bel.frame _, fun h => by cases h⟩
theorem over : Rows.stampUnpacksRow.holds Try.pinned (OpenSpec.ofChange Rows.stampUnpacksSpec) :=
  OpenClaim.holds_of_wide 9 Try.f9 rfl rfl rfl rfl rfl rfl rfl ⟨rfl, rfl, rfl, rfl, rfl⟩ rfl rfl rfl rfl rfl (by kernel_rfl) Try.func9 (by kernel_rfl)
    (of_decide_eq_true (by kernel_rfl)) (by unfold Func.isWrapper; first | (rw [if_pos (by decide +kernel)]; kernel_rfl) | (rw [if_neg (by decide +kernel)]; exact ⟨rfl, rfl⟩))
    (fun os started H enc _ => lifted os started H enc)
theorem proved : Rows.StampUnpacksSaid := over
end Go.Proofs.Ytljkipkcabjcaaa.RowUnpacks
namespace Go.Proofs.Ytljkipkcabjcaaa
theorem stampUnpacks_holds : Rows.StampUnpacksSaid := RowUnpacks.proved
#print axioms stampUnpacks_holds
end Go.Proofs.Ytljkipkcabjcaaa
