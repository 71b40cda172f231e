/-
  DERIVED. GIVEN WITH THE SEED: THE CARDS: each row of YtfkbpjeocljflaaDoorRows.lean that lists a variable, with what it lists TIED to the program's text (the seventh form; the later family's looks); each row that meets fmt, with fmt's text TOLD by the authors' own Lean function (tested against real Go, not proved from fmt's source: count such statements apart). THE CARD IS WHAT COUNTS. Prove the row's statement (the work); the ties are given (YtfkbpjeocljflaaDoorTie.lean); close each card by the builder's one call (the guide's Derived/Test/ToyasCard.lean, 'card_holds'). Laid BY PROGRAM, IN A SANDBOX (cutbox-door.mjs). By AI agents, Wed Nov 11 2026. No macro, syntax, notation, axiom, sorry.
-/
import Derived.Test.YtfkbpjeocljflaaDoorRows
import GoSem.ClaimSeven
namespace Go.Proofs.YtfkbpjeocljflaaDoor
namespace Rows

/-- THE TIED CARD OF 'tidemarklaw26.TableText'. -/
def tableTextCard : Claim7 := { stood := { row := tableTextRow, standIns := [], harness := (true, "c2e29d162d7edc515507f7a32248a77ce9ea8e9cc3bd2978e26f8f1e13c2d7bf"), looks := true }, kinds := [], alts := [], laidByText := true, laidKinds := [.data, .data, .data, .data, .sentinel, .sentinel, .widerDeep, .pinned], laidTests := true, laidLooks := .later }
def TableTextCardSaid : Prop := Claim7.holds Tryd.pinned (.plain (OpenSpec.ofChange tableTextSpec)) tableTextCard

/-- THE SECOND FORM's CARD OF 'tidemarklaw26.TableText'. -/
def tableTextUptoCard : Claim7 := { stood := { row := tableTextUptoRow, standIns := [], harness := (true, "c2e29d162d7edc515507f7a32248a77ce9ea8e9cc3bd2978e26f8f1e13c2d7bf"), looks := true }, kinds := [], alts := [], laidByText := true, laidKinds := [.data, .data, .data, .data, .sentinel, .sentinel, .widerDeep, .pinned], laidTests := true, laidLooks := .later }
def TableTextUptoCardSaid : Prop := Claim7.holds Tryd.pinned (.plain (OpenSpec.upto tableTextSpec)) tableTextUptoCard
end Rows
end Go.Proofs.YtfkbpjeocljflaaDoor
