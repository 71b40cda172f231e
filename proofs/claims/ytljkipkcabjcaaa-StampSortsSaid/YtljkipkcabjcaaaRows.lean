/-
  No cell of these rows narrows 'for every input' (looked for: loops, veiled, ifaces, maps, wideKeys, modest, calm, conditions, laid).
  DERIVED. THE GIVEN ROWS OF THIS SEAT. 9 by the template 'for every input the law returns true; each argument reads behind the call as it read before'; 0 by the template 'total and deterministic' (their statements: YtljkipkcabjcaaaTotals.lean).
  GIVEN WITH THE SEED: the statements are not yours to turn. If you find one false, say at which input.
  Laid BY PROGRAM, IN A SANDBOX (cutbox-rows.mjs): the forced cells as the released guide's own fill.sh prints them over the translation 8ff85b826a25c6f8… (all of the seat's roots in one cut). By AI agents, Wed Nov 11 2026. No macro, syntax, notation, axiom, sorry.
-/
import Derived.Test.YtljkipkcabjcaaaChecked
import GoSem.Claim
import GoSem.ClaimJoined
import GoSem.ClaimMapViews
import Derived.JoinedTies
import Derived.KernelRfl
namespace Go.Proofs.Ytljkipkcabjcaaa
/- THE CELL 'sum', in the pinned program and in every row, IS THE sha256 OF THE DUMP (.gsa) THAT YtljkipkcabjcaaaProg.lean LOADS. Nothing in Lean hashes anything: it is a label: what it is worth is what the hold of that sum in a sandbox is worth. -/
noncomputable def Try.pinned : Pinned := { name := "ytljkipkcabjcaaa", sum := "8ff85b826a25c6f83cf45172149c641f1ed0f42bad9b9e010e4be94081420730", checked := Try.checked }
namespace Rows
def none {H : Type} : Left H := { results := [], args := [] }

/-- 'tidemarklaw1.StampNexts': WHATEVER THE INPUT: true; the input reads as it did. -/
def stampNextsSpec : ChangeSpec := { name := "stampNexts", fn := fun _ => fun
  | [d] => { results := [.lit (.bool true)], args := [d] }
  | _ => none }
def stampNextsRow : OpenClaim := { program := "ytljkipkcabjcaaa", sum := "8ff85b826a25c6f83cf45172149c641f1ed0f42bad9b9e010e4be94081420730", func := "tidemark/tidemarklaw1.StampNexts", spec := "stampNexts", apart := false }
def StampNextsSaid : Prop := stampNextsRow.holds Try.pinned (OpenSpec.ofChange stampNextsSpec)

/-- ITS FALSE NEIGHBOUR: 'it returns false'. Refute it at one input. -/
def stampNextsWrong : ChangeSpec := { name := "stampNexts", fn := fun _ => fun
  | [d] => { results := [.lit (.bool false)], args := [d] }
  | _ => none }
def StampNextsWrongFalsely : Prop := stampNextsRow.holds Try.pinned (OpenSpec.ofChange stampNextsWrong)

/-- 'tidemarklaw1.StampCompares': WHATEVER THE INPUT: true; the input reads as it did. -/
def stampComparesSpec : ChangeSpec := { name := "stampCompares", fn := fun _ => fun
  | [d] => { results := [.lit (.bool true)], args := [d] }
  | _ => none }
def stampComparesRow : OpenClaim := { program := "ytljkipkcabjcaaa", sum := "8ff85b826a25c6f83cf45172149c641f1ed0f42bad9b9e010e4be94081420730", func := "tidemark/tidemarklaw1.StampCompares", spec := "stampCompares", apart := false }
def StampComparesSaid : Prop := stampComparesRow.holds Try.pinned (OpenSpec.ofChange stampComparesSpec)

/-- ITS FALSE NEIGHBOUR: 'it returns false'. Refute it at one input. -/
def stampComparesWrong : ChangeSpec := { name := "stampCompares", fn := fun _ => fun
  | [d] => { results := [.lit (.bool false)], args := [d] }
  | _ => none }
def StampComparesWrongFalsely : Prop := stampComparesRow.holds Try.pinned (OpenSpec.ofChange stampComparesWrong)

/-- 'tidemarklaw1.StampTotal': WHATEVER THE INPUT: true; the input reads as it did. -/
def stampTotalSpec : ChangeSpec := { name := "stampTotal", fn := fun _ => fun
  | [d] => { results := [.lit (.bool true)], args := [d] }
  | _ => none }
def stampTotalRow : OpenClaim := { program := "ytljkipkcabjcaaa", sum := "8ff85b826a25c6f83cf45172149c641f1ed0f42bad9b9e010e4be94081420730", func := "tidemark/tidemarklaw1.StampTotal", spec := "stampTotal", apart := false }
def StampTotalSaid : Prop := stampTotalRow.holds Try.pinned (OpenSpec.ofChange stampTotalSpec)

/-- ITS FALSE NEIGHBOUR: 'it returns false'. Refute it at one input. -/
def stampTotalWrong : ChangeSpec := { name := "stampTotal", fn := fun _ => fun
  | [d] => { results := [.lit (.bool false)], args := [d] }
  | _ => none }
def StampTotalWrongFalsely : Prop := stampTotalRow.holds Try.pinned (OpenSpec.ofChange stampTotalWrong)

/-- 'tidemarklaw1.StampMaxes': WHATEVER THE INPUT: true; the input reads as it did. -/
def stampMaxesSpec : ChangeSpec := { name := "stampMaxes", fn := fun _ => fun
  | [d] => { results := [.lit (.bool true)], args := [d] }
  | _ => none }
def stampMaxesRow : OpenClaim := { program := "ytljkipkcabjcaaa", sum := "8ff85b826a25c6f83cf45172149c641f1ed0f42bad9b9e010e4be94081420730", func := "tidemark/tidemarklaw1.StampMaxes", spec := "stampMaxes", apart := false }
def StampMaxesSaid : Prop := stampMaxesRow.holds Try.pinned (OpenSpec.ofChange stampMaxesSpec)

/-- ITS FALSE NEIGHBOUR: 'it returns false'. Refute it at one input. -/
def stampMaxesWrong : ChangeSpec := { name := "stampMaxes", fn := fun _ => fun
  | [d] => { results := [.lit (.bool false)], args := [d] }
  | _ => none }
def StampMaxesWrongFalsely : Prop := stampMaxesRow.holds Try.pinned (OpenSpec.ofChange stampMaxesWrong)

/-- 'tidemarklaw1.StampBytewise': WHATEVER THE INPUT: true; the input reads as it did. -/
def stampBytewiseSpec : ChangeSpec := { name := "stampBytewise", fn := fun _ => fun
  | [d] => { results := [.lit (.bool true)], args := [d] }
  | _ => none }
def stampBytewiseRow : OpenClaim := { program := "ytljkipkcabjcaaa", sum := "8ff85b826a25c6f83cf45172149c641f1ed0f42bad9b9e010e4be94081420730", func := "tidemark/tidemarklaw1.StampBytewise", spec := "stampBytewise", apart := false }
def StampBytewiseSaid : Prop := stampBytewiseRow.holds Try.pinned (OpenSpec.ofChange stampBytewiseSpec)

/-- ITS FALSE NEIGHBOUR: 'it returns false'. Refute it at one input. -/
def stampBytewiseWrong : ChangeSpec := { name := "stampBytewise", fn := fun _ => fun
  | [d] => { results := [.lit (.bool false)], args := [d] }
  | _ => none }
def StampBytewiseWrongFalsely : Prop := stampBytewiseRow.holds Try.pinned (OpenSpec.ofChange stampBytewiseWrong)

/-- 'tidemarklaw1.StampPacks': WHATEVER THE INPUT: true; the input reads as it did. -/
def stampPacksSpec : ChangeSpec := { name := "stampPacks", fn := fun _ => fun
  | [d] => { results := [.lit (.bool true)], args := [d] }
  | _ => none }
def stampPacksRow : OpenClaim := { program := "ytljkipkcabjcaaa", sum := "8ff85b826a25c6f83cf45172149c641f1ed0f42bad9b9e010e4be94081420730", func := "tidemark/tidemarklaw1.StampPacks", spec := "stampPacks", apart := false }
def StampPacksSaid : Prop := stampPacksRow.holds Try.pinned (OpenSpec.ofChange stampPacksSpec)

/-- ITS FALSE NEIGHBOUR: 'it returns false'. Refute it at one input. -/
def stampPacksWrong : ChangeSpec := { name := "stampPacks", fn := fun _ => fun
  | [d] => { results := [.lit (.bool false)], args := [d] }
  | _ => none }
def StampPacksWrongFalsely : Prop := stampPacksRow.holds Try.pinned (OpenSpec.ofChange stampPacksWrong)

/-- 'tidemarklaw1.StampUnpacks': WHATEVER THE INPUT: true; the input reads as it did. -/
def stampUnpacksSpec : ChangeSpec := { name := "stampUnpacks", fn := fun _ => fun
  | [d] => { results := [.lit (.bool true)], args := [d] }
  | _ => none }
def stampUnpacksRow : OpenClaim := { program := "ytljkipkcabjcaaa", sum := "8ff85b826a25c6f83cf45172149c641f1ed0f42bad9b9e010e4be94081420730", func := "tidemark/tidemarklaw1.StampUnpacks", spec := "stampUnpacks", apart := false }
def StampUnpacksSaid : Prop := stampUnpacksRow.holds Try.pinned (OpenSpec.ofChange stampUnpacksSpec)

/-- ITS FALSE NEIGHBOUR: 'it returns false'. Refute it at one input. -/
def stampUnpacksWrong : ChangeSpec := { name := "stampUnpacks", fn := fun _ => fun
  | [d] => { results := [.lit (.bool false)], args := [d] }
  | _ => none }
def StampUnpacksWrongFalsely : Prop := stampUnpacksRow.holds Try.pinned (OpenSpec.ofChange stampUnpacksWrong)

/-- 'tidemarklaw1.StampClimbs': WHATEVER THE INPUT: true; the input reads as it did. -/
def stampClimbsSpec : ChangeSpec := { name := "stampClimbs", fn := fun _ => fun
  | [d] => { results := [.lit (.bool true)], args := [d] }
  | _ => none }
def stampClimbsRow : OpenClaim := { program := "ytljkipkcabjcaaa", sum := "8ff85b826a25c6f83cf45172149c641f1ed0f42bad9b9e010e4be94081420730", func := "tidemark/tidemarklaw1.StampClimbs", spec := "stampClimbs", apart := false }
def StampClimbsSaid : Prop := stampClimbsRow.holds Try.pinned (OpenSpec.ofChange stampClimbsSpec)

/-- ITS FALSE NEIGHBOUR: 'it returns false'. Refute it at one input. -/
def stampClimbsWrong : ChangeSpec := { name := "stampClimbs", fn := fun _ => fun
  | [d] => { results := [.lit (.bool false)], args := [d] }
  | _ => none }
def StampClimbsWrongFalsely : Prop := stampClimbsRow.holds Try.pinned (OpenSpec.ofChange stampClimbsWrong)

/-- 'tidemarklaw1.StampSorts': WHATEVER THE INPUT: true; the input reads as it did. -/
def stampSortsSpec : ChangeSpec := { name := "stampSorts", fn := fun _ => fun
  | [d] => { results := [.lit (.bool true)], args := [d] }
  | _ => none }
def stampSortsRow : OpenClaim := { program := "ytljkipkcabjcaaa", sum := "8ff85b826a25c6f83cf45172149c641f1ed0f42bad9b9e010e4be94081420730", func := "tidemark/tidemarklaw1.StampSorts", spec := "stampSorts", unfollowed := true, recurses := true, apart := false }
def StampSortsSaid : Prop := stampSortsRow.holds Try.pinned (OpenSpec.ofChange stampSortsSpec)

/-- ITS FALSE NEIGHBOUR: 'it returns false'. Refute it at one input. -/
def stampSortsWrong : ChangeSpec := { name := "stampSorts", fn := fun _ => fun
  | [d] => { results := [.lit (.bool false)], args := [d] }
  | _ => none }
def StampSortsWrongFalsely : Prop := stampSortsRow.holds Try.pinned (OpenSpec.ofChange stampSortsWrong)

/- THE SECOND FORM. 'bulk': how many values and letters a reading holds, each counted each time it is reached (what is shared counts as often as it is met; a slice's spare places count too). A statement '..UptoSaid' is the law's where the arguments, and the package variables that the reading takes, are together of bulk at most 1048576: NARROWER than '..Said'. Prove '..Said' where nothing that the law and all that it calls make is longer than what came in: it says more and counts as full. Else prove '..UptoSaid'. A law counts once. -/
mutual
def uptoBulk {H : Type} : DataW H → Nat
  | .lit (.string bytes) => bytes.length + 1
  | .lit _ => 1
  | .nil => 1
  | .ptr d => uptoBulk d + 1
  | .slice elems spare => uptoBulkAll elems + uptoBulkAll spare + 1
  | .agg parts => uptoBulkAll parts + 1
  | .iface _ d => uptoBulk d + 1
  | .map entries => uptoBulkEntries entries + 1
  | .held _ => 1
def uptoBulkAll {H : Type} : List (DataW H) → Nat
  | [] => 0
  | d :: r => uptoBulk d + uptoBulkAll r
def uptoBulkEntries {H : Type} : List (Lit × DataW H) → Nat
  | [] => 0
  | x :: r => uptoBulkEntry x + uptoBulkEntries r
def uptoBulkEntry {H : Type} : Lit × DataW H → Nat
  | (.string bytes, d) => bytes.length + uptoBulk d + 1
  | (_, d) => uptoBulk d + 1
 end
def uptoSmall : (H : Type) → List (DataW H) → Bool := fun _ ds => decide (uptoBulkAll ds ≤ 1048576)
def OpenSpec.upto (s : _root_.Go.ChangeSpec) : _root_.Go.OpenSpec := { _root_.Go.OpenSpec.ofChange s with cond := some uptoSmall }

/-- 'tidemarklaw1.StampNexts', WHERE WHAT IT READS IS OF BULK AT MOST 1048576: true; the input reads as it did. -/
def stampNextsUptoRow : OpenClaim := { program := "ytljkipkcabjcaaa", sum := "8ff85b826a25c6f83cf45172149c641f1ed0f42bad9b9e010e4be94081420730", func := "tidemark/tidemarklaw1.StampNexts", spec := "stampNexts", apart := false, narrowed := true }
def StampNextsUptoSaid : Prop := stampNextsUptoRow.holds Try.pinned (OpenSpec.upto stampNextsSpec)

/-- 'tidemarklaw1.StampCompares', WHERE WHAT IT READS IS OF BULK AT MOST 1048576: true; the input reads as it did. -/
def stampComparesUptoRow : OpenClaim := { program := "ytljkipkcabjcaaa", sum := "8ff85b826a25c6f83cf45172149c641f1ed0f42bad9b9e010e4be94081420730", func := "tidemark/tidemarklaw1.StampCompares", spec := "stampCompares", apart := false, narrowed := true }
def StampComparesUptoSaid : Prop := stampComparesUptoRow.holds Try.pinned (OpenSpec.upto stampComparesSpec)

/-- 'tidemarklaw1.StampTotal', WHERE WHAT IT READS IS OF BULK AT MOST 1048576: true; the input reads as it did. -/
def stampTotalUptoRow : OpenClaim := { program := "ytljkipkcabjcaaa", sum := "8ff85b826a25c6f83cf45172149c641f1ed0f42bad9b9e010e4be94081420730", func := "tidemark/tidemarklaw1.StampTotal", spec := "stampTotal", apart := false, narrowed := true }
def StampTotalUptoSaid : Prop := stampTotalUptoRow.holds Try.pinned (OpenSpec.upto stampTotalSpec)

/-- 'tidemarklaw1.StampMaxes', WHERE WHAT IT READS IS OF BULK AT MOST 1048576: true; the input reads as it did. -/
def stampMaxesUptoRow : OpenClaim := { program := "ytljkipkcabjcaaa", sum := "8ff85b826a25c6f83cf45172149c641f1ed0f42bad9b9e010e4be94081420730", func := "tidemark/tidemarklaw1.StampMaxes", spec := "stampMaxes", apart := false, narrowed := true }
def StampMaxesUptoSaid : Prop := stampMaxesUptoRow.holds Try.pinned (OpenSpec.upto stampMaxesSpec)

/-- 'tidemarklaw1.StampBytewise', WHERE WHAT IT READS IS OF BULK AT MOST 1048576: true; the input reads as it did. -/
def stampBytewiseUptoRow : OpenClaim := { program := "ytljkipkcabjcaaa", sum := "8ff85b826a25c6f83cf45172149c641f1ed0f42bad9b9e010e4be94081420730", func := "tidemark/tidemarklaw1.StampBytewise", spec := "stampBytewise", apart := false, narrowed := true }
def StampBytewiseUptoSaid : Prop := stampBytewiseUptoRow.holds Try.pinned (OpenSpec.upto stampBytewiseSpec)

/-- 'tidemarklaw1.StampPacks', WHERE WHAT IT READS IS OF BULK AT MOST 1048576: true; the input reads as it did. -/
def stampPacksUptoRow : OpenClaim := { program := "ytljkipkcabjcaaa", sum := "8ff85b826a25c6f83cf45172149c641f1ed0f42bad9b9e010e4be94081420730", func := "tidemark/tidemarklaw1.StampPacks", spec := "stampPacks", apart := false, narrowed := true }
def StampPacksUptoSaid : Prop := stampPacksUptoRow.holds Try.pinned (OpenSpec.upto stampPacksSpec)

/-- 'tidemarklaw1.StampUnpacks', WHERE WHAT IT READS IS OF BULK AT MOST 1048576: true; the input reads as it did. -/
def stampUnpacksUptoRow : OpenClaim := { program := "ytljkipkcabjcaaa", sum := "8ff85b826a25c6f83cf45172149c641f1ed0f42bad9b9e010e4be94081420730", func := "tidemark/tidemarklaw1.StampUnpacks", spec := "stampUnpacks", apart := false, narrowed := true }
def StampUnpacksUptoSaid : Prop := stampUnpacksUptoRow.holds Try.pinned (OpenSpec.upto stampUnpacksSpec)

/-- 'tidemarklaw1.StampClimbs', WHERE WHAT IT READS IS OF BULK AT MOST 1048576: true; the input reads as it did. -/
def stampClimbsUptoRow : OpenClaim := { program := "ytljkipkcabjcaaa", sum := "8ff85b826a25c6f83cf45172149c641f1ed0f42bad9b9e010e4be94081420730", func := "tidemark/tidemarklaw1.StampClimbs", spec := "stampClimbs", apart := false, narrowed := true }
def StampClimbsUptoSaid : Prop := stampClimbsUptoRow.holds Try.pinned (OpenSpec.upto stampClimbsSpec)

/-- 'tidemarklaw1.StampSorts', WHERE WHAT IT READS IS OF BULK AT MOST 1048576: true; the input reads as it did. -/
def stampSortsUptoRow : OpenClaim := { program := "ytljkipkcabjcaaa", sum := "8ff85b826a25c6f83cf45172149c641f1ed0f42bad9b9e010e4be94081420730", func := "tidemark/tidemarklaw1.StampSorts", spec := "stampSorts", unfollowed := true, recurses := true, apart := false, narrowed := true }
def StampSortsUptoSaid : Prop := stampSortsUptoRow.holds Try.pinned (OpenSpec.upto stampSortsSpec)

end Rows
end Go.Proofs.Ytljkipkcabjcaaa
