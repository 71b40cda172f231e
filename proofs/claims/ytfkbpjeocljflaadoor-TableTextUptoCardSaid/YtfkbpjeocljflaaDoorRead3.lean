/-
  read's third closure: the line 'key'.
-/
import Derived.Test.YtfkbpjeocljflaaDoorRep
namespace Go.Proofs.YtfkbpjeocljflaaDoor
open Go Go.RowKit Go.Lib Go.Proofs.YtfkbpjeocljflaaDoor.PTableText Go.Proofs.YtfkbpjeocljflaaDoorW.PrintWords Go.Proofs.YtfkbpjeocljflaaDoorW.PrintLast Go.Proofs.YtfkbpjeocljflaaDoorW.PrintMore
set_option linter.unusedVariables false
set_option linter.unusedSimpArgs false

/-- The two sentinel errors of strconv: their cells hold errors. -/
def Errs (w : World) : Prop := (∃ ts ps, w.var? Tryd.prog "strconv.ErrSyntax" = some #[.iface ts ps]) ∧ ∃ tr pr, w.var? Tryd.prog "strconv.ErrRange" = some #[.iface tr pr]

theorem read3_few (wb pb : Nat) (A : Option Addr) (n c : Nat) (hn : n ≠ 1) (p : Value) (w : World)
    (HW : w.heap[wb]? = some (.cells #[.slice A n c] 48 (0, 0))) :
    Calls Tryd.prog 36 #[.pointer (some ⟨wb, 0, none⟩), p] w fun e w' => e = .panicked noneChain ∧ w' = w := by
  have c1 := (blk_cell HW 0).trans rfl
  have hb : ((n : Int) == 1) = false := by simp; omega
  clear HW
  go_enter Tryd.func36, Tryd.ntmps36
  go_wp2_with (first | (refine (must_no _).mono ?_; rintro e w1 ⟨rfl, rfl⟩))
  exact ⟨rfl, rfl, rfl⟩

theorem hb_block {W W1 : World} (hb : Below W.heap.size W W1) {k : Nat} {o : Obj} (h : W.heap[k]? = some o) : W1.heap[k]? = some o := (hb.block k (blk_lt h)).trans h
theorem below_bytes (w : World) (t : TypeId) (s : ByteArray) : Below w.heap.size w (Lib.bytesWorld w t s) := bytes_below (Below.refl _ _) (Nat.le_refl _) t s

set_option maxHeartbeats 1000000 in
set_option maxRecDepth 100000 in
theorem read3_calls (B sb wb pb c : Nat) (A : Option Addr) (S : Sch) (n : ByteArray) (w : World) (HW : w.heap[wb]? = some (.cells #[.slice A 1 c] 48 (0, 0))) (HP : w.heap[pb]? = some (.cells #[.pointer (some ⟨sb, 0, none⟩)] 52 (0, 0)))
    (hC : Kd.string.C w A 1 [n]) (hR : Rep B sb S w) (he : Errs w) (hks : n.size ≤ 2000000) :
    Calls Tryd.prog 36 #[.pointer (some ⟨wb, 0, none⟩), .pointer (some ⟨pb, 0, none⟩)] w (StepPost B sb S (readKey S [n]) w) := by
  obtain ⟨bk, o, hA, _, hcells⟩ := strings_at hC (by simp)
  subst hA
  have w0 := hcells 0 n rfl
  rw [Nat.add_zero] at w0
  have c1 := (blk_cell HW 0).trans rfl
  obtain ⟨⟨ts, ps, hs1⟩, tr, pr, hs2⟩ := he
  by_cases hq : ∃ v, atoiAll n.data.toList = .ok v
  · obtain ⟨v, hv⟩ := hq
    have hat := Tryd.strconv_Atoi_ok n (by omega) v hv w
    have HQ := Aside0.mk (show readKey S [n] = some { S with key := v } by simp only [readKey, hv])
    have HAT := Aside0.mk hat
    have HWW := Aside0.mk HW
    have HPP := Aside0.mk HP
    have HRR := Aside0.mk hR
    clear hat HW HP hR hC hcells hs1 hs2 hv
    go_enter Tryd.func36, Tryd.ntmps36
    go_wp2_with (fail)
    refine (must_ok _).mono ?_
    rintro e w2 ⟨rfl, rfl⟩
    go_wp2_with (fail)
    refine HAT.out.mono ?_
    rintro e w3 ⟨rfl, hw3⟩
    have hb3 : Below w2.heap.size w2 w3 := by
      rcases hw3 with rfl | ⟨t, rfl⟩
      · exact Below.refl _ _
      · exact below_bytes _ _ _
    have HB3 := Aside0.mk hb3
    clear hw3 hb3 HAT c1 w0
    go_wp2_with (fail)
    refine (must_ok _).mono ?_
    rintro e w4 ⟨rfl, rfl⟩
    have hR3 := HRR.out.below HB3.out
    have p3 := (hb_block HB3.out HPP.out)
    have c2 := (blk_cell p3 0).trans rfl
    obtain ⟨h0r, h1r, cv, iv, hs, hc, hi⟩ := hR3
    have s2 := (blk_cell hs 2).trans rfl
    have f2 := blk_frozen hs 2
    have HF := Aside0.mk (show Rep B sb { S with key := v } (w4.setCell ⟨sb, 2, none⟩ (.int .i64 v)) ∧ Fr B sb w2 (w4.setCell ⟨sb, 2, none⟩ (.int .i64 v)) from
      ⟨(HRR.out.below HB3.out).keyed v, (Fr.of_below HB3.out HRR.out.2.1).trans (Fr.setCell h0r _ 2 _)⟩)
    clear hs hc hi p3 h0r h1r
    go_wp2
    go_end0
    rw [HQ.out]
    exact StepPost.some HF.out.1 HF.out.2
  · have hat := Tryd.strconv_Atoi_bad n (by omega) (fun v hv => hq ⟨v, hv⟩) ts tr ps pr w hs1 hs2
    have HQ := Aside0.mk (show readKey S [n] = none by
      simp only [readKey]
      cases h : atoiAll n.data.toList with
      | ok v => exact absurd ⟨v, h⟩ hq
      | range => rfl
      | _ => rfl)
    have HAT := Aside0.mk hat
    have HRR := Aside0.mk hR
    clear hat HW HP hR hC hcells hs1 hs2 hq
    go_enter Tryd.func36, Tryd.ntmps36
    go_wp2_with (fail)
    refine (must_ok _).mono ?_
    rintro e w2 ⟨rfl, rfl⟩
    go_wp2_with (fail)
    refine HAT.out.mono ?_
    rintro e w3 ⟨⟨N, v, rfl⟩, hb3⟩
    have HB3 := Aside0.mk hb3
    clear hb3 HAT c1 w0
    go_wp2_with (fail)
    refine (must_no _).mono ?_
    rintro e w4 ⟨rfl, rfl⟩
    go_wp2
    exact ⟨rfl, by rw [HQ.out]; exact StepPost.none (HRR.out.below HB3.out) (Fr.of_below HB3.out HRR.out.2.1)⟩
end Go.Proofs.YtfkbpjeocljflaaDoor
