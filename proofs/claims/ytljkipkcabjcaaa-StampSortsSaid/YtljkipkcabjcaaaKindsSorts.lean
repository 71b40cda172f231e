/-
  A list of stamps, as the print's own structure reads it.
-/
import Derived.Test.YtljkipkcabjcaaaLawSorts
import Derived.Test.YtljkipkcabjcaaaNums
import Derived.Test.YtljkipkcabjcaaaKinds
namespace Go.Proofs.Ytljkipkcabjcaaa.Open
open Go.RowKit Go.Proofs.YtljkipkcabjcaaaW.PrintWords
theorem opens_isoT {α β : Type} {P : Program} {t : TypeId} {d : Kd α} {F : α → Prop} (f : β → α) (g : α → β) (hfg : ∀ a, f (g a) = a) (h : Opens P t d F) : Opens P t (Kd.iso d f) (fun b => F (f b)) := by
  refine ⟨h.1, fun enc w base spare held fuel cs x hx hw => ?_⟩
  obtain ⟨a, hK, hF⟩ := h.2 enc w base spare held fuel cs x hx hw
  exact ⟨g a, by show d.K w (f (g a)) cs; rw [hfg]; exact hK, by show F (f (g a)); rw [hfg]; exact hF⟩
theorem opens25T : Opens Try.prog 25 PStampSorts.k25 (fun s => FStamp (s.f0, s.f1, s.f2)) :=
  opens_isoT (fun s : PStampSorts.S25 => (s.f0, s.f1, s.f2)) (fun a => ⟨a.1, a.2.1, a.2.2⟩) (fun _ => rfl) opens25
theorem opens41T : Opens Try.prog 41 (Kd.slice 41 PStampSorts.k25) (fun l => l.length ≤ 9223372036854775807 ∧ l.length * 16 ≤ 140737488351232 ∧ ∀ s ∈ l, FStamp (s.f0, s.f1, s.f2)) :=
  opens_slice Try.underlying41 (by kernel_rfl) (by kernel_rfl) opens25T
end Go.Proofs.Ytljkipkcabjcaaa.Open
