/-
  must; named.
-/
import Derived.Test.YtfkbpjeocljflaaDoorPTableTextx0
import Derived.Test.YtfkbpjeocljflaaDoorShelf
import Derived.Lib.Hide
import Derived.WalkSmall
namespace Go.Proofs.YtfkbpjeocljflaaDoor
open Go Go.RowKit
set_option linter.unusedVariables false
set_option linter.unusedSimpArgs false

theorem must_ok (w : World) : Calls Tryd.prog 18 #[.bool true] w fun e w' => e = .returned (.tuple #[]) ∧ w' = w := by
  go_enter Tryd.func18, Tryd.ntmps18
  go_wp2
  go_end0
  exact ⟨rfl, rfl⟩

/-- What a line that is none gives up with. -/
def noneChain : List PanicEntry := [{ v := .iface 43 (.agg #[]), recovered := false }]

theorem must_no (w : World) : Calls Tryd.prog 18 #[.bool false] w fun e w' => e = .panicked noneChain ∧ w' = w := by
  go_enter Tryd.func18, Tryd.ntmps18
  go_wp2
  exact ⟨rfl, rfl, rfl⟩
end Go.Proofs.YtfkbpjeocljflaaDoor
