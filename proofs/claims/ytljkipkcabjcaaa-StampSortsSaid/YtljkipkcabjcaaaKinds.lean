/-
  The types of the stamp laws' arguments, and what they read as: stamps, two, three of them, a stamp with nodes, a list of stamps, a text.
-/
import Derived.Test.YtljkipkcabjcaaaOpen
import Derived.Test.YtljkipkcabjcaaaProg
import Derived.KernelRfl
namespace Go.Proofs.Ytljkipkcabjcaaa.Open
open Go.RowKit Go.Proofs.YtljkipkcabjcaaaW.PrintWords

def FU64 (n : Int) : Prop := (Lit.int .u64 n).wf = true
def FU32 (n : Int) : Prop := (Lit.int .u32 n).wf = true
def FStamp (x : Int × Int × Int) : Prop := FU64 x.1 ∧ FU32 x.2.1 ∧ FU32 x.2.2
def kStamp : Kd (Int × Int × Int) := Kd.pair (Kd.int .u64) (Kd.pair (Kd.int .u32) (Kd.int .u32))
theorem fields25 : ∃ f0 f1 f2 : Field, Try.prog.underlying 25 = some (.struct #[f0, f1, f2]) ∧ f0.type = 22 ∧ f1.type = 23 ∧ f2.type = 23 ∧ f0.offset = 0 ∧ f1.offset = 1 ∧ f2.offset = 2 :=
  ⟨_, _, _, Try.underlying25, by kernel_rfl, by kernel_rfl, by kernel_rfl, by kernel_rfl, by kernel_rfl, by kernel_rfl⟩
theorem opens25 : Opens Try.prog 25 kStamp FStamp := by
  obtain ⟨f0, f1, f2, hu, t0, t1, t2, o0, o1, o2⟩ := fields25
  have c22 : Try.prog.cellsOf 22 = 1 := by kernel_rfl
  have c23 : Try.prog.cellsOf 23 = 1 := by kernel_rfl
  have h := opensFs_cons (n1 := 1) t0 o0 rfl (opens_int Try.underlying22 c22) (opensFs_cons (n1 := 1) t1 o1 rfl (opens_int Try.underlying23 c23) (opensFs_one t2 o2 (opens_int Try.underlying23 c23)))
  exact opens_struct hu (by kernel_rfl) h
theorem kStamp_cells {w : World} {x : Int × Int × Int} {cs : List Value} (h : kStamp.K w x cs) : cs = [.int .u64 x.1, .int .u32 x.2.1, .int .u32 x.2.2] := by
  obtain ⟨_, _, rfl, rfl, ⟨_, _, rfl, rfl, rfl⟩⟩ := h
  rfl

def kTwo : Kd ((Int × Int × Int) × (Int × Int × Int)) := Kd.pair kStamp kStamp
theorem fields34 : ∃ f0 f1 : Field, Try.prog.underlying 34 = some (.struct #[f0, f1]) ∧ f0.type = 25 ∧ f1.type = 25 ∧ f0.offset = 0 ∧ f1.offset = 3 :=
  ⟨_, _, Try.underlying34, by kernel_rfl, by kernel_rfl, by kernel_rfl, by kernel_rfl⟩
theorem opens34 : Opens Try.prog 34 kTwo (fun x => FStamp x.1 ∧ FStamp x.2) := by
  obtain ⟨f0, f1, hu, t0, t1, o0, o1⟩ := fields34
  have h := opensFs_cons (n1 := 3) t0 o0 rfl opens25 (opensFs_one t1 o1 opens25)
  exact opens_struct hu (by kernel_rfl) h
theorem kTwo_cells {w : World} {x : (Int × Int × Int) × (Int × Int × Int)} {cs : List Value} (h : kTwo.K w x cs) :
    cs = [.int .u64 x.1.1, .int .u32 x.1.2.1, .int .u32 x.1.2.2, .int .u64 x.2.1, .int .u32 x.2.2.1, .int .u32 x.2.2.2] := by
  obtain ⟨_, _, rfl, h1, h2⟩ := h
  rw [kStamp_cells h1, kStamp_cells h2]
  rfl

def kThree : Kd ((Int × Int × Int) × (Int × Int × Int) × (Int × Int × Int)) := Kd.pair kStamp (Kd.pair kStamp kStamp)
theorem fields39 : ∃ f0 f1 f2 : Field, Try.prog.underlying 39 = some (.struct #[f0, f1, f2]) ∧ f0.type = 25 ∧ f1.type = 25 ∧ f2.type = 25 ∧ f0.offset = 0 ∧ f1.offset = 3 ∧ f2.offset = 6 :=
  ⟨_, _, _, Try.underlying39, by kernel_rfl, by kernel_rfl, by kernel_rfl, by kernel_rfl, by kernel_rfl, by kernel_rfl⟩
theorem opens39 : Opens Try.prog 39 kThree (fun x => FStamp x.1 ∧ FStamp x.2.1 ∧ FStamp x.2.2) := by
  obtain ⟨f0, f1, f2, hu, t0, t1, t2, o0, o1, o2⟩ := fields39
  have h := opensFs_cons (n1 := 3) t0 o0 rfl opens25 (opensFs_cons (n1 := 3) t1 o1 rfl opens25 (opensFs_one t2 o2 opens25))
  exact opens_struct hu (by kernel_rfl) h
theorem kThree_cells {w : World} {x : (Int × Int × Int) × (Int × Int × Int) × (Int × Int × Int)} {cs : List Value} (h : kThree.K w x cs) :
    cs = [.int .u64 x.1.1, .int .u32 x.1.2.1, .int .u32 x.1.2.2, .int .u64 x.2.1.1, .int .u32 x.2.1.2.1, .int .u32 x.2.1.2.2, .int .u64 x.2.2.1, .int .u32 x.2.2.2.1, .int .u32 x.2.2.2.2] := by
  obtain ⟨_, _, rfl, h1, _, _, rfl, h2, h3⟩ := h
  rw [kStamp_cells h1, kStamp_cells h2, kStamp_cells h3]
  rfl

def FNodes (l : List Int) : Prop := l.length ≤ 9223372036854775807 ∧ l.length * 4 ≤ 140737488351232 ∧ ∀ x ∈ l, FU32 x
def kRoad : Kd ((Int × Int × Int) × List Int) := Kd.pair kStamp (Kd.slice 26 (Kd.int .u32))
theorem fields28 : ∃ f0 f1 : Field, Try.prog.underlying 28 = some (.struct #[f0, f1]) ∧ f0.type = 25 ∧ f1.type = 26 ∧ f0.offset = 0 ∧ f1.offset = 3 :=
  ⟨_, _, Try.underlying28, by kernel_rfl, by kernel_rfl, by kernel_rfl, by kernel_rfl⟩
theorem opens28 : Opens Try.prog 28 kRoad (fun x => FStamp x.1 ∧ FNodes x.2) := by
  obtain ⟨f0, f1, hu, t0, t1, o0, o1⟩ := fields28
  have c23 : Try.prog.cellsOf 23 = 1 := by kernel_rfl
  have c26 : Try.prog.cellsOf 26 = 1 := by kernel_rfl
  have b23 : Try.prog.bytesOf 23 = 4 := by kernel_rfl
  have h := opensFs_cons (n1 := 3) t0 o0 rfl opens25 (opensFs_one t1 o1 (opens_slice (q := 26) Try.underlying26 c26 b23 (opens_int Try.underlying23 c23)))
  exact opens_struct hu (by kernel_rfl) h
theorem kRoad_cells {w : World} {x : (Int × Int × Int) × List Int} {cs : List Value} (h : kRoad.K w x cs) :
    ∃ A c, cs = [.int .u64 x.1.1, .int .u32 x.1.2.1, .int .u32 x.1.2.2, .slice A x.2.length c] ∧ x.2.length ≤ c ∧ Kd.C (Kd.int .u32) w A x.2.length x.2 := by
  obtain ⟨_, _, rfl, h1, A, c, rfl, hl, hr⟩ := h
  rw [kStamp_cells h1]
  exact ⟨A, c, rfl, hl, hr⟩

def FStamps (l : List (Int × Int × Int)) : Prop := l.length ≤ 9223372036854775807 ∧ l.length * 16 ≤ 140737488351232 ∧ ∀ x ∈ l, FStamp x
theorem opens41 : Opens Try.prog 41 (Kd.slice 41 kStamp) FStamps := opens_slice Try.underlying41 (by kernel_rfl) (by kernel_rfl) opens25
theorem opens9 : Opens Try.prog 9 Kd.string (fun s => s.size ≤ 140737488351232) := opens_string Try.underlying9 (by kernel_rfl)

end Go.Proofs.Ytljkipkcabjcaaa.Open
