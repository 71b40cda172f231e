/-
  read's first closure: the line 'table'.
-/
import Derived.Test.YtfkbpjeocljflaaDoorMust
namespace Go.Proofs.YtfkbpjeocljflaaDoor
open Go Go.RowKit Go.Proofs.YtfkbpjeocljflaaDoorW.PrintWords Go.Proofs.YtfkbpjeocljflaaDoorW.PrintLast Go.Proofs.YtfkbpjeocljflaaDoorW.PrintMore
set_option linter.unusedVariables false
set_option linter.unusedSimpArgs false

theorem read1_ok (wb pb sb : Nat) (A : Option Addr) (n c : Nat) (x : ByteArray) (cv iv : Value) (key : Int) (w : World)
    (HW : w.heap[wb]? = some (.cells #[.slice A 1 c] 48 (0, 0))) (HP : w.heap[pb]? = some (.cells #[.pointer (some ⟨sb, 0, none⟩)] 52 (0, 0)))
    (HS : w.heap[sb]? = some (.cells #[.string ⟨#[]⟩, cv, .int .i64 key, iv] 25 (0, 0))) (bk off : Nat) (hA : A = some ⟨bk, off, none⟩) (hx : w.cell? ⟨bk, off, none⟩ = some (.string x)) :
    Calls Tryd.prog 32 #[.pointer (some ⟨wb, 0, none⟩), .pointer (some ⟨pb, 0, none⟩)] w fun e w' => e = .returned (.tuple #[]) ∧ w' = (w.setCell ⟨sb, 0, none⟩ (.string x)).drew := by
  subst hA
  have c1 := (blk_cell HW 0).trans rfl
  have c2 := (blk_cell HP 0).trans rfl
  have s0 := (blk_cell HS 0).trans rfl
  have f1 := blk_frozen HW 0
  have f2 := blk_frozen HP 0
  have f3 := blk_frozen HS 0
  have M := must_ok
  go_enter Tryd.func32, Tryd.ntmps32
  go_wp2_with (first | (refine (must_ok _).mono ?_; rintro e w1 ⟨rfl, rfl⟩))
  clear M HW HP HS
  go_region
  go_wp2
  go_end0
  exact ⟨rfl, rfl⟩

theorem read1_many (wb pb : Nat) (A : Option Addr) (n c : Nat) (hn : n ≠ 1) (p : Value) (w : World)
    (HW : w.heap[wb]? = some (.cells #[.slice A n c] 48 (0, 0))) :
    Calls Tryd.prog 32 #[.pointer (some ⟨wb, 0, none⟩), p] w fun e w' => e = .panicked noneChain ∧ w' = w := by
  have c1 := (blk_cell HW 0).trans rfl
  have f1 := blk_frozen HW 0
  have hn' : ¬ (n : Int) = 1 := by omega
  have hb : ((n : Int) == 1) = false := by simp; omega
  clear HW
  go_enter Tryd.func32, Tryd.ntmps32
  go_wp2_with (first | (refine (must_no _).mono ?_; rintro e w1 ⟨rfl, rfl⟩))
  exact ⟨rfl, rfl, rfl⟩

set_option maxRecDepth 100000 in
theorem read1_named (wb pb sb : Nat) (A : Option Addr) (c : Nat) (name : ByteArray) (hne : name.toList.isEmpty = false) (cv iv : Value) (key : Int) (w : World)
    (HW : w.heap[wb]? = some (.cells #[.slice A 1 c] 48 (0, 0))) (HP : w.heap[pb]? = some (.cells #[.pointer (some ⟨sb, 0, none⟩)] 52 (0, 0)))
    (HS : w.heap[sb]? = some (.cells #[.string name, cv, .int .i64 key, iv] 25 (0, 0))) :
    Calls Tryd.prog 32 #[.pointer (some ⟨wb, 0, none⟩), .pointer (some ⟨pb, 0, none⟩)] w fun e w' => e = .panicked noneChain ∧ w' = w := by
  have c1 := (blk_cell HW 0).trans rfl
  have c2 := (blk_cell HP 0).trans rfl
  have s0 := (blk_cell HS 0).trans rfl
  have f1 := blk_frozen HW 0
  have f2 := blk_frozen HP 0
  have f3 := blk_frozen HS 0
  clear HW HP HS
  go_enter Tryd.func32, Tryd.ntmps32
  go_wp2_with (first | (refine (must_no _).mono ?_; rintro e w1 ⟨rfl, rfl⟩))
  exact ⟨rfl, rfl, rfl⟩
end Go.Proofs.YtfkbpjeocljflaaDoor
