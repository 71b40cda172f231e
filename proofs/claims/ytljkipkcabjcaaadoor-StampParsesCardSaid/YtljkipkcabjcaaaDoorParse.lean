/-
  The walk of stamp.Parse.
-/
import Derived.Test.YtljkipkcabjcaaaDoorParseLaw
import Derived.Lib.Hide
namespace Go.Proofs.YtljkipkcabjcaaaDoor.PStampParses
open Go.RowKit Go.Proofs.YtljkipkcabjcaaaDoorW.PrintWords Go.Proofs.YtljkipkcabjcaaaDoorW.PrintLast Go.Proofs.YtljkipkcabjcaaaDoorW.PrintMore
set_option linter.unusedVariables false
set_option linter.unusedSimpArgs false
/-- What a Parse hands back. -/
def Told (s : ByteArray) (e : Ending) : Prop := (∃ a b c : Nat, IsText s a b c ∧ e = .returned (.tuple #[.agg #[.int .u64 (a : Int), .int .u32 (b : Int), .int .u32 (c : Int)], .int .i64 0])) ∨ ((∀ a b c, ¬ IsText s a b c) ∧ e = .returned (.tuple #[.agg #[.int .u64 0, .int .u32 0, .int .u32 0], .int .i64 10]))
/-- What the walks need of a world. -/
def Laid (w : World) : Prop := Errs w ∧ (∃ m : Int, w.cell? ⟨1, 0, none⟩ = some (.int .i64 m)) ∧ Lib.TabIs Tryd.prog w "internal/strconv.uint64pow10" .u64 Lib.pow10Tab
theorem Laid.below {w w' : World} (h : Laid w) (hb : Below w.heap.size w w') : Laid w' := by
  obtain ⟨h1, ⟨m, h2⟩, h3⟩ := h
  exact ⟨h1.below hb, ⟨m, pw_cell_below hb h2⟩, tab_below h3 hb⟩
theorem split_calls (s : ByteArray) (w : World) (hs : s.size ≤ 100) (hL : Laid w) : Calls Tryd.prog 11 #[.string s, .string ⟨#[46]⟩] w fun e w' => e = .returned (.slice (some ⟨w.heap.size, 0, none⟩) (parts s).length (parts s).length) ∧ w' = w.alloc (.cells ((parts s).map Value.string).toArray 9) := by
  obtain ⟨_, ⟨m, hm⟩, _⟩ := hL
  have h := Tryd.strings_Split s ⟨#[46]⟩ m w (by omega) hm (by decide)
  rw [← parts_length] at h
  exact h
/-- number's two results. -/
def Num2 (B : Nat) (p : ByteArray) (v : Int) (ok : Bool) : Prop := (ok = true → ∃ u : Nat, u ≤ 2 ^ B - 1 ∧ p = dB u ∧ v = (u : Int)) ∧ (ok = false → ∀ u : Nat, u ≤ 2 ^ B - 1 → p ≠ dB u)
theorem num2_of {B : Nat} (hB : 2 ^ B - 1 ≤ 18446744073709551615) {p : ByteArray} {e : Ending} (h : Numbered B p e) : ∃ (v : Int) (ok : Bool), e = .returned (.tuple #[.int .u64 v, .bool ok]) ∧ Num2 B p v ok := by
  rcases numbered_text hB h with ⟨u, h1, h2, rfl⟩ | ⟨h1, v, rfl⟩
  · exact ⟨_, _, rfl, fun _ => ⟨u, h1, h2, rfl⟩, fun h => by cases h⟩
  · exact ⟨_, _, rfl, fun h => (by cases h), fun _ => h1⟩
theorem num64 (p : ByteArray) (hp : p.size ≤ 100) (w : World) (hE : Errs w) : Calls Tryd.prog 12 #[.string p, .int .i64 64] w fun e w' => (∃ (v : Int) (ok : Bool), e = .returned (.tuple #[.int .u64 v, .bool ok]) ∧ Num2 64 p v ok) ∧ Below w.heap.size w w' :=
  (number_calls p 64 w hp hE (fun w h => parse64 p hp w h)).mono fun e w' ⟨h, hb⟩ => ⟨num2_of (by decide) h, hb⟩
theorem num32 (p : ByteArray) (hp : p.size ≤ 100) (w : World) (hE : Errs w) : Calls Tryd.prog 12 #[.string p, .int .i64 32] w fun e w' => (∃ (v : Int) (ok : Bool), e = .returned (.tuple #[.int .u64 v, .bool ok]) ∧ Num2 32 p v ok) ∧ Below w.heap.size w w' :=
  (number_calls p 32 w hp hE (fun w h => parse32 p hp w h)).mono fun e w' ⟨h, hb⟩ => ⟨num2_of (by decide) h, hb⟩
theorem blk_new2 (w : World) (o p : Obj) : ((w.alloc o).alloc p).heap[w.heap.size + 1]? = some p := by
  have h := blk_new (w.alloc o) p
  rw [show (w.alloc o).heap.size = w.heap.size + 1 from by simp] at h
  exact h
theorem stamp_parse (s : ByteArray) (w : World) (hL : Laid w) : Calls Tryd.prog 7 #[.string s] w fun e w' => Told s e ∧ Below w.heap.size w w' := by
  have hu25 := Tryd.underlying25
  have HL := Lib.hid hL
  have HL1 := Lib.hid (hL.below (below_alloc (Below.refl _ _) (.cells #[.int .u64 0, .int .u32 0, .int .u32 0] 25)))
  clear hL
  by_cases h42 : 42 < s.size
  · have h42' : (42 : Int) < s.size := by omega
    have HN := Lib.hid (show ∀ a b c, ¬ IsText s a b c from fun a b c h => by have := isText_size h; omega)
    go_enter Tryd.func7, Tryd.ntmps7
    go_wp2_with fail
    refine bodyPost_ret (results_ct rfl _ _ w.heap.size 25 #[.int .u64 0, .int .u32 0, .int .u32 0] (0, 0) _ rfl (blk_new w _) Tryd.underlying25 rfl (by kernel_rfl)) rfl ?_
    exact ⟨.inr ⟨HN.out, rfl⟩, below_alloc (Below.refl _ _) _⟩
  · have h42' : ¬ (42 : Int) < s.size := by omega
    have CS := Lib.hid (fun w => split_calls s w (by omega))
    by_cases h3 : (parts s).length = 3
    · obtain ⟨p, q, r, hpq⟩ : ∃ p q r, parts s = [p, q, r] := by
        match h : parts s, h3 with
        | [p, q, r], _ => exact ⟨p, q, r, rfl⟩
      have HPQ := Lib.hid hpq
      have hsz : p.size ≤ 42 ∧ q.size ≤ 42 ∧ r.size ≤ 42 := by
        have e := of_parts hpq
        have : s.size = p.data.toList.length + 1 + q.data.toList.length + 1 + r.data.toList.length := by
          rw [e, bA_size]
          simp
          omega
        rw [data_length, data_length, data_length] at this
        omega
      have CP := Lib.hid (fun w h => num64 p (by omega) w h)
      have CQ := Lib.hid (fun w h => num32 q (by omega) w h)
      have CR := Lib.hid (fun w h => num32 r (by omega) w h)
      rw [hpq] at CS
      clear hpq h3 hsz
      go_enter Tryd.func7, Tryd.ntmps7
      go_wp2_with fail
      refine (CS.out _ HL1.out).mono ?_
      rintro e w1 ⟨rfl, rfl⟩
      go_wp2_with fail
      have E2 : Errs ((w.alloc (.cells #[.int .u64 0, .int .u32 0, .int .u32 0] 25)).alloc (.cells #[.string p, .string q, .string r] 9)) := (HL1.out.below (below_alloc (Below.refl _ _) _)).1
      have K2 := blk_alloc (blk_new w (.cells #[.int .u64 0, .int .u32 0, .int .u32 0] 25)) (.cells #[.string p, .string q, .string r] 9)
      have P2 := blk_new2 w (.cells #[.int .u64 0, .int .u32 0, .int .u32 0] 25) (.cells #[.string p, .string q, .string r] 9)
      have B2 : Below w.heap.size w ((w.alloc (.cells #[.int .u64 0, .int .u32 0, .int .u32 0] 25)).alloc (.cells #[.string p, .string q, .string r] 9)) := below_alloc (below_alloc (Below.refl _ _) _) _
      refine (CP.out _ E2).mono ?_
      rintro e w3 ⟨⟨v1, ok1, rfl, n1⟩, hb3⟩
      have E3 := Lib.hid (E2.below hb3)
      have K3 := blk_below K2 hb3
      have P3 := blk_below P2 hb3
      have B3 := Lib.hid (below_step B2 hb3)
      replace n1 := Lib.hid n1
      clear E2 K2 P2 B2 hb3 HL HL1
      have p1 := (blk_cell P3 1).trans rfl
      go_wp2_with fail
      refine (CQ.out _ E3.out).mono ?_
      rintro e w4 ⟨⟨v2, ok2, rfl, n2⟩, hb4⟩
      have E4 := Lib.hid (E3.out.below hb4)
      have K4 := blk_below K3 hb4
      have P4 := blk_below P3 hb4
      have B4 := Lib.hid (below_step B3.out hb4)
      replace n2 := Lib.hid n2
      clear E3 K3 P3 B3 hb4 p1
      have p2 := (blk_cell P4 2).trans rfl
      go_wp2_with fail
      refine (CR.out _ E4.out).mono ?_
      rintro e w5 ⟨⟨v3, ok3, rfl, n3⟩, hb5⟩
      have K5 := blk_below K4 hb5
      have B5 := Lib.hid (below_step B4.out hb5)
      replace n3 := Lib.hid n3
      clear E4 K4 P4 B4 hb5 p2
      have k0 := (blk_cell K5 0).trans rfl
      have k1 := (blk_cell K5 1).trans rfl
      have k2 := (blk_cell K5 2).trans rfl
      have f0 := blk_frozen K5 0
      have f1 := blk_frozen K5 1
      have f2 := blk_frozen K5 2
      have hset : Hid (∀ x y z : Value, _) := Lib.hid fun x y z => blk_put (cs' := #[x, y, z]) (blk_set (blk_set K5 0 x) 1 y) 2 z rfl
      have hB : Hid (∀ x y z : Value, Below w.heap.size w (((w5.setCell ⟨w.heap.size, 0, none⟩ x).setCell ⟨w.heap.size, 1, none⟩ y).setCell ⟨w.heap.size, 2, none⟩ z)) := Lib.hid fun x y z => ((B5.out.setCell (Nat.le_refl _) _).setCell (Nat.le_refl _) _).setCell (Nat.le_refl _) _
      cases ok1 with
      | false =>
        go_wp2_with fail
        refine bodyPost_ret (results_ct rfl _ _ w.heap.size 25 #[.int .u64 0, .int .u32 0, .int .u32 0] (0, 0) _ rfl (hset.out _ _ _) Tryd.underlying25 rfl (by kernel_rfl)) rfl ?_
        exact ⟨.inr ⟨fun a b c h => n1.out.2 rfl a h.2.1 (by have := (isText_parts h).symm.trans HPQ.out; simp only [List.cons.injEq, and_true] at this; exact this.1.symm), rfl⟩, hB.out _ _ _⟩
      | true =>
        cases ok2 with
        | false =>
          go_wp2_with fail
          refine bodyPost_ret (results_ct rfl _ _ w.heap.size 25 #[.int .u64 0, .int .u32 0, .int .u32 0] (0, 0) _ rfl (hset.out _ _ _) Tryd.underlying25 rfl (by kernel_rfl)) rfl ?_
          exact ⟨.inr ⟨fun a b c h => n2.out.2 rfl b h.2.2.1 (by have := (isText_parts h).symm.trans HPQ.out; simp only [List.cons.injEq, and_true] at this; exact this.2.1.symm), rfl⟩, hB.out _ _ _⟩
        | true =>
          cases ok3 with
          | false =>
            go_wp2_with fail
            refine bodyPost_ret (results_ct rfl _ _ w.heap.size 25 #[.int .u64 0, .int .u32 0, .int .u32 0] (0, 0) _ rfl (hset.out _ _ _) Tryd.underlying25 rfl (by kernel_rfl)) rfl ?_
            exact ⟨.inr ⟨fun a b c h => n3.out.2 rfl c h.2.2.2 (by have := (isText_parts h).symm.trans HPQ.out; simp only [List.cons.injEq, and_true] at this; exact this.2.2.symm), rfl⟩, hB.out _ _ _⟩
          | true =>
            go_wp2_with fail
            refine bodyPost_ret (results_ct rfl _ _ w.heap.size 25 #[.int .u64 v1, .int .u32 (v2 % 4294967296), .int .u32 (v3 % 4294967296)] (0, 0) _ rfl (hset.out _ _ _) Tryd.underlying25 rfl (by kernel_rfl)) rfl ?_
            obtain ⟨a, ha, h1, rfl⟩ := n1.out.1 rfl
            obtain ⟨b, hb, h2, rfl⟩ := n2.out.1 rfl
            obtain ⟨c, hc, h3, rfl⟩ := n3.out.1 rfl
            have e1 : (b : Int) % 4294967296 = b := by omega
            have e2 : (c : Int) % 4294967296 = c := by omega
            rw [e1, e2]
            exact ⟨.inl ⟨a, b, c, ⟨text_parts HPQ.out h1 h2 h3, ha, hb, hc⟩, rfl⟩, hB.out _ _ _⟩
    · have HN := Lib.hid (show ∀ a b c, ¬ IsText s a b c from fun a b c h => h3 (by rw [isText_parts h]; rfl))
      have h3' : (((parts s).length : Int) != 3) = true := bne_iff_ne.2 (by omega)
      have h3'' : (((parts s).length : Int) == 3) = false := beq_eq_false_iff_ne.2 (by omega)
      generalize hn : (parts s).length = n at CS h3' h3''
      generalize hps : (List.map Value.string (parts s)).toArray = ps at CS
      clear h3 hn hps
      go_enter Tryd.func7, Tryd.ntmps7
      go_wp2_with fail
      refine (CS.out _ HL1.out).mono ?_
      rintro e w1 ⟨rfl, rfl⟩
      have hK := blk_alloc (blk_new w (.cells #[.int .u64 0, .int .u32 0, .int .u32 0] 25)) (.cells ps 9)
      have k0 := (blk_cell hK 0).trans rfl
      have k1 := (blk_cell hK 1).trans rfl
      have k2 := (blk_cell hK 2).trans rfl
      have f0 := blk_frozen hK 0
      have f1 := blk_frozen hK 1
      have f2 := blk_frozen hK 2
      have hset : ∀ x y z : Value, _ := fun x y z => blk_put (cs' := #[x, y, z]) (blk_set (blk_set hK 0 x) 1 y) 2 z rfl
      go_wp2_with fail
      refine bodyPost_ret (results_ct rfl _ _ w.heap.size 25 #[.int .u64 0, .int .u32 0, .int .u32 0] (0, 0) _ rfl hK Tryd.underlying25 rfl (by kernel_rfl)) rfl ?_
      exact ⟨.inr ⟨HN.out, rfl⟩, below_alloc (below_alloc (Below.refl _ _) _) _⟩
end Go.Proofs.YtljkipkcabjcaaaDoor.PStampParses
