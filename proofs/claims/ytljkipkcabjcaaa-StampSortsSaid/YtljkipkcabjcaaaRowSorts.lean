/-
  StampSorts: for every list of stamps the law returns true, and its argument reads behind the call as it read before.
-/
import Derived.Test.YtljkipkcabjcaaaRows
import Derived.Test.YtljkipkcabjcaaaKinds
import Derived.Test.YtljkipkcabjcaaaKindsSorts
import Derived.WalkKit
import Derived.ProofKit
import Derived.OpenShut
import Derived.ChangeOld
import Derived.Below
import Derived.SizedLaws
namespace Go.Proofs.Ytljkipkcabjcaaa.RowSorts
open Go.ChangeShapes Go.WideShapes Go.ChangeAt Go.RowKit Go.Proofs.Ytljkipkcabjcaaa.Open
set_option linter.unusedVariables false
theorem own : ownKnob Try.prog.godebug = none := by kernel_rfl
theorem laidOut : laidOutB Try.prog = true := by kernel_rfl
theorem walk (W : World) (v : Value) (x : List PStampSorts.S25) (hok : ∃ A l c, v = .slice A l c) (hK : (Go.Proofs.YtljkipkcabjcaaaW.PrintWords.Kd.slice 41 PStampSorts.k25).K W x v.cells.toList) (hF : (fun l : List PStampSorts.S25 => l.length ≤ 9223372036854775807 ∧ l.length * 16 ≤ 140737488351232 ∧ ∀ s ∈ l, FStamp (s.f0, s.f1, s.f2)) x) :
    Calls Try.prog 11 #[v] W fun e w' => e = .returned (.bool true) ∧ Below W.heap.size W w' := by
  obtain ⟨A, n, c, rfl⟩ := hok
  obtain ⟨A', c', h, hl, hC⟩ := hK
  simp [Value.cells] at h
  obtain ⟨rfl, rfl, rfl⟩ := h
  obtain ⟨_, hb, hs⟩ := hF
  exact PStampSorts.sorts_calls A c x W hC hl (by omega)
set_option maxRecDepth 100000 in
theorem lifted (os : Os) (started : os.Started) (H : Type) (enc : TypeId × Value → H) :
    ReturnsInHanded {} Try.checked os 11 .any (Rows.stampSortsSpec.pre6 enc Try.prog Try.f11 Rows.stampSortsRow.domain false) (Rows.stampSortsSpec.post enc Try.prog Try.f11 false true false false) := by
  refine returnsInHanded_of_change_sized (C := Try.checked) own started (by kernel_rfl) Try.func11
    (ChangeSpec.witness6 (enc := enc) (C := Try.checked) false ⟨#[], #[.slice none 0 0], []⟩ 8 (by kernel_rfl) (by kernel_rfl) (by kernel_rfl) (by kernel_rfl)) ?_
  intro W base args ds gs before hval0 hW hcnd hsz0 _
  have hsz : (DataW.weightsEach Try.prog (Try.f11.params.toList ++ Rows.stampSortsSpec.plain.varTypes Try.prog) (ds ++ gs)).all (· ≤ reachBytes) = true := hsz0
  have hval : ∀ (j : Nat) t v, Try.f11.params[j]? = some t → args[j]? = some v → Value.okWide Try.prog W .any base t v := hval0
  have hW' := hW
  obtain ⟨p, q, hA0, hV, rfl, hfz, hnd⟩ := hW
  have hA : DataW.TrodAll enc Try.prog W 0 (fun _ => true) true Try.f11.params.toList args.toList ds p := hA0
  rw [Try.params11] at hA hval hsz
  obtain ⟨v0, vs0, d0, ds0, p0, q0, hargs, rfl, rfl, h0, r0⟩ := trodAll_cons hA
  obtain ⟨rfl, rfl, rfl⟩ := trodAll_nil r0
  obtain rfl : args = #[v0] := by cases args; simp_all
  obtain ⟨rfl, rfl⟩ := trodVars_none hV
  have lt0 : ∀ x ∈ p0, x.block < W.heap.size := by obtain ⟨m, hm⟩ := h0; exact DataW.trod_lt m _ _ _ hm
  have hv0 : ∃ A l c, v0 = .slice A l c := okWide_slice Try.underlying41 (hval 0 41 v0 rfl rfl)
  obtain ⟨x, hK, hF⟩ := opens_arg opens41T hsz h0
  clear hA0 hval0 hsz0 hsz
  refine (walk W v0 x hv0 hK hF).mono fun e W' ⟨he, bel⟩ => ?_
  subst he
  exact ⟨_, rfl, _, _, _, [], _, [], hW', trodAll_mk1 (shut_bool Try.underlying4 _), (trodAll_cons_mk (Below.trod laidOut (by kernel_rfl) (of_decide_eq_true (by kernel_rfl)) h0 bel lt0) trodAll_mk0), rfl, bel.frame _, fun h => by cases h⟩
theorem over : Rows.stampSortsRow.holds Try.pinned (OpenSpec.ofChange Rows.stampSortsSpec) :=
  OpenClaim.holds_of_wide 11 Try.f11 rfl rfl rfl rfl rfl rfl rfl ⟨rfl, rfl, rfl, rfl, rfl⟩ rfl rfl rfl rfl rfl (by kernel_rfl) Try.func11 (by kernel_rfl)
    (of_decide_eq_true (by kernel_rfl)) (by unfold Func.isWrapper; first | (rw [if_pos (by decide +kernel)]; kernel_rfl) | (rw [if_neg (by decide +kernel)]; exact ⟨rfl, rfl⟩))
    (fun os started H enc _ => lifted os started H enc)
theorem proved : Rows.StampSortsSaid := over
end Go.Proofs.Ytljkipkcabjcaaa.RowSorts
namespace Go.Proofs.Ytljkipkcabjcaaa
theorem stampSorts_holds : Rows.StampSortsSaid := RowSorts.proved
#print axioms stampSorts_holds
end Go.Proofs.Ytljkipkcabjcaaa
