/-
  The walks of slices.Clone and stamp.Sort.
-/
import Derived.Test.YtljkipkcabjcaaaApp
import Derived.Test.YtljkipkcabjcaaaSortLaw
import Derived.Lib.Hide
import Derived.Lib.SliceRun
import Derived.Outline
namespace Go.Proofs.Ytljkipkcabjcaaa.PStampSorts
set_option linter.unusedSimpArgs false
set_option linter.unusedVariables false
open Go.RowKit Go.Proofs.YtljkipkcabjcaaaW.PrintWords Go.Proofs.YtljkipkcabjcaaaW.PrintLast Go.Proofs.YtljkipkcabjcaaaW.PrintMore
attribute [local go_sem high] eqA25
theorem clone_calls (A : Option Addr) (c : Nat) (xs : List S25) (w : World) (hr : Kd.C k25 w A xs.length xs) (hc : xs.length ≤ c) (hn : xs.length ≤ 8796093021952) :
    Calls Try.prog 36 #[.slice A xs.length c] w fun e w' => ∃ v, e = .returned v ∧ Own w' v xs ∧ (∀ k, v.ownBlock = some k → w.heap.size ≤ k) ∧ Below w.heap.size w w' := by
  have HR := Lib.hid hr
  have q41 : ∀ (w : World) (a : Option Addr) (n c n' c' : Nat), (binOp .eql 41 (.slice a n c) (.slice none n' c')).run Try.prog w = .ok (.bool a.isNone) w := fun w a n c n' c' => Lib.run_eql_slice_nil w _ _ a n c n' c' Try.underlying41
  clear hr
  cases A with
  | none =>
    have hx : xs = [] := by
      rcases Nat.eq_zero_or_pos xs.length with h | h
      · exact List.eq_nil_of_length_eq_zero h
      · obtain ⟨ad, e, _⟩ := HR.out.2.2 h
        cases e
    subst hx
    go_enter Try.func36, Try.ntmps36
    go_wp2_with fail
    go_ret
    exact ⟨_, rfl, Kd.R_nil _ _ _ _ _, fun k hk => (by simp [Value.ownBlock] at hk), Below.refl _ _⟩
  | some ad =>
    have HE : Kd.R k25 25 (w.alloc (.cells #[] 25)) w.heap.size (fun _ => True) (.slice (some ⟨w.heap.size, 0, none⟩) 0 0) [] := ⟨fun _ _ => trivial, [], World.ownsRow_made w #[] 0 (Nat.le_refl _) (Nat.zero_le _) (by simp), Reps.none _ _⟩
    have HC := Lib.hid (Kd.C_below HR.out ((Below.refl _ w).alloc (Nat.le_refl _) (.cells #[] 25)))
    have HB := ((Below.refl _ w).alloc (Nat.le_refl _) (.cells #[] 25))
    replace HE := Lib.hid HE
    replace HB := Lib.hid HB
    clear HR
    go_enter Try.func36, Try.ntmps36
    go_wp2_with (at_builtin; refine Kd.R_append_rows k25 (Rr := k25.K (w.alloc (.cells #[] 25))) (w0 := w) w.heap.size rfl _ _ 41 25 (.agg #[(.int .u64 0), (.int .u32 0), (.int .u32 0)]) 16 rfl Try.underlying41 info25 rfl (by decide) (by omega) _ [] xs (some ad) xs.length c (fun _ => True) (fun _ => False) rfl rfl HE.out HC.out ?aM (fun _ hk => hk.elim) (fun _ _ => trivial) HB.out ?aS ?aL ?_; (case aM => intro x cs hx; rw [k25_open hx]; exact k25_mkM _ _ _ _); (case aS => simp); (case aL => simp; omega); intro v1 w1 hR1 hb1 _ _)
    go_ret
    exact ⟨_, rfl, own_of hR1, fun k hk => Kd.R_base hR1 k hk, hb1⟩
/-- Sorting nil. -/
theorem insertion_nil (w : World) : Calls Try.prog 41 #[.slice none 0 0, .int .i64 0, .int .i64 0, .func (.func 14) #[] #[]] w fun e w' => e = .returned (.tuple #[]) ∧ Below w.heap.size w w' := by
  go_enter Try.func41, Try.ntmps41
  go_wp2_with fail
  go_loopw [8] (fun v w' => v = .int .i64 1 ∧ Below w.heap.size w w') (fun _ _ => 0)
  case atStart => exact ⟨rfl, Below.refl _ _⟩
  case round =>
    obtain ⟨rfl, hb⟩ := hrel
    go_wp2_with fail
    go_end0
    exact ⟨rfl, hb⟩
theorem pdq_nil (l : Int) (w : World) : Calls Try.prog 39 #[.slice none 0 0, .int .i64 0, .int .i64 0, .int .i64 l, .func (.func 14) #[] #[]] w fun e w' => e = .returned (.tuple #[]) ∧ Below w.heap.size w w' := by
  have HI := Lib.hid insertion_nil
  go_enter Try.func39, Try.ntmps39
  go_wp2_with fail
  go_loopw [1, 2] (fun a b w' => a = .int .i64 0 ∧ b = .int .i64 0 ∧ Below w.heap.size w w') (fun _ _ _ => 0)
  case atStart => exact ⟨rfl, rfl, Below.refl _ _⟩
  case round =>
    obtain ⟨rfl, rfl, hb⟩ := hrel
    go_wp2_with fail
    refine (HI.out _).mono ?_
    rintro e w1 ⟨rfl, hb1⟩
    go_wp2_with fail
    refine bodyPost_ret (results_none rfl _ _ _) rfl ?_
    exact ⟨rfl, below_step hb hb1⟩
theorem sortFunc_nil (w : World) : Calls Try.prog 37 #[.slice none 0 0, .func (.func 14) #[] #[]] w fun e w' => e = .returned (.tuple #[]) ∧ Below w.heap.size w w' := by
  have HP := Lib.hid pdq_nil
  have HL : Hid (∀ w, Calls Try.prog 40 #[.int .u64 0] w fun e w' => (∃ l : Int, e = .returned (.int .i64 l)) ∧ w' = w) := Lib.hid fun w => by
    have L := Try.laysSlF06_f37
    have h := Any.bits_Len (SlLaysF0.n15.bits (P := Try.prog) (ρ := Try.laysSlF06_f37_ren) { L with }) 0 w (by omega) (by omega)
    change Calls Try.prog 40 _ _ _ at h
    exact h.mono fun e w' ⟨he, hw⟩ => ⟨⟨_, he⟩, hw⟩
  go_enter Try.func37, Try.ntmps37
  go_wp2_with fail
  refine (HL.out _).mono ?_
  rintro e w1 ⟨⟨l, rfl⟩, rfl⟩
  go_wp2_with fail
  refine (HP.out _ _).mono ?_
  rintro e w1 ⟨rfl, hb⟩
  go_wp2_with fail
  go_end0
  exact ⟨rfl, hb⟩
theorem sortFunc_calls (v : Value) (xs : List S25) (w : World) (h : Own w v xs) (hn : xs.length ≤ 8796093021952) : Calls Try.prog 37 #[v, .func (.func 14) #[] #[]] w fun e w' => e = .returned (.tuple #[]) ∧ Own w' v (sortL [] xs) ∧ w.grownBy w' v.ownBlock := by
  obtain ⟨_, inner, ⟨_, hown⟩, _⟩ := id h
  rcases hown with ⟨rfl, h0⟩ | ⟨g, cap, cur, rfl, _⟩
  · obtain rfl : xs = [] := List.eq_nil_of_length_eq_zero h0
    refine (sortFunc_nil w).mono ?_
    rintro e w' ⟨rfl, hb⟩
    exact ⟨rfl, Kd.R_nil _ _ _ _ _, grown_of_below hb _⟩
  · have eg : ∀ args w, (callFunc 14 args).run Try.prog w = .ok (.enter 14 args) w := enters_of Try.func14 (by kernel_rfl) rfl
    have hcon := AnyQ.slices_SortFunc Try.laysSlF06_f37 3 Try.isAgg25 Try.sizeOf25 enc25 (fun _ => rfl) enc25_one cmp cmp_swo 14 #[] g 0 cap xs.toArray w eg (cmp_lays g 0 _ w) (own_holds h) (h.lt rfl) (by simp; omega)
    change Calls Try.prog 37 _ _ _ at hcon
    rw [List.size_toArray] at hcon
    refine hcon.mono ?_
    rintro e w' ⟨rfl, d', m, os, hp, hs, rfl⟩
    have hd : d'.size = xs.length := by have := hp.1; simpa using this
    obtain ⟨ho, hg⟩ := own_sorted (m := m) (os := os) h rfl hd
    rw [sorted_is (by simpa using hp) (by simpa using hs)] at ho
    exact ⟨rfl, ho, hg⟩
theorem sort_calls (A : Option Addr) (c : Nat) (xs : List S25) (w : World) (hr : Kd.C k25 w A xs.length xs) (hc : xs.length ≤ c) (hn : xs.length ≤ 8796093021952) :
    Calls Try.prog 28 #[.slice A xs.length c] w fun e w' => ∃ v, e = .returned v ∧ Own w' v (sortL [] xs) ∧ (∀ k, v.ownBlock = some k → w.heap.size ≤ k) ∧ Below w.heap.size w w' := by
  have HC := Lib.hid (clone_calls A c xs w hr hc hn)
  have HS := Lib.hid (fun v w h => sortFunc_calls v xs w h hn)
  clear hr
  go_enter Try.func28, Try.ntmps28
  go_wp2_with fail
  refine HC.out.mono ?_
  rintro e w1 ⟨v, rfl, ho, hk, hb⟩
  replace ho := Lib.hid ho
  replace hk := Lib.hid hk
  replace hb := Lib.hid hb
  go_wp2_with fail
  refine (HS.out v w1 ho.out).mono ?_
  rintro e w2 ⟨rfl, ho2, hg2⟩
  replace ho2 := Lib.hid ho2
  go_wp2_with fail
  go_ret
  exact ⟨_, rfl, ho2.out, hk.out, hb.out.grown hg2 hb.out.size (fun k h => hk.out k h)⟩
end Go.Proofs.Ytljkipkcabjcaaa.PStampSorts
