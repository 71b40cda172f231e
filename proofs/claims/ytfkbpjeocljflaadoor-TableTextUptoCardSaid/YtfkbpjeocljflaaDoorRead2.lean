/-
  read's second closure: the line 'column'.
-/
import Derived.Test.YtfkbpjeocljflaaDoorRep
import Derived.Deep.RegionLaw
namespace Go.Proofs.YtfkbpjeocljflaaDoor
open Go Go.RowKit Go.Lib Go.Proofs.YtfkbpjeocljflaaDoor.PTableText Go.Proofs.YtfkbpjeocljflaaDoorW.PrintWords Go.Proofs.YtfkbpjeocljflaaDoorW.PrintLast Go.Proofs.YtfkbpjeocljflaaDoorW.PrintMore
set_option linter.unusedVariables false
set_option linter.unusedSimpArgs false

theorem info56 : (Tryd.prog.info? 56).map (fun i => (i.zero, i.size, i.bytes)) = some (some (.agg #[.string ⟨#[]⟩, .int .i64 0, .bool false]), k56.sz, 32) := by kernel_rfl
theorem index_kinds (kd : ByteArray) (w : World) (hk : ∀ i, i < 4 → w.cell? ⟨0, i, none⟩ = some (.string (kindsB.getD i ByteArray.empty))) :
    Calls Tryd.prog 35 #[.slice (some ⟨0, 0, none⟩) 4 4, .string kd] w fun e w' => e = .returned (.int .i64 (idxOfS kindsB kd)) ∧ w' = w :=
  Tryd.slices_Index_string 0 0 4 4 kindsB kd w (by decide) (by decide) (fun j hj => by rw [Nat.zero_add]; exact hk j hj)
theorem idxOfS_le (zs : List ByteArray) (x : ByteArray) : -1 ≤ idxOfS zs x ∧ idxOfS zs x < zs.length := by
  have gen : ∀ (zs : List ByteArray) (i : Nat), -1 ≤ idxFromS zs x i ∧ idxFromS zs x i < (i + zs.length : Nat) ∨ (idxFromS zs x i = -1) := by
    intro zs
    induction zs with
    | nil => intro i; right; rfl
    | cons z zs ih =>
      intro i
      unfold idxFromS
      split
      · left; simp; omega
      · rcases ih (i + 1) with ⟨h1, h2⟩ | h
        · left; simp only [List.length_cons]; omega
        · right; exact h
  have h0 : -1 ≤ idxOfS zs x := by rcases gen zs 0 with h | h <;> (unfold idxOfS; omega)
  refine ⟨h0, ?_⟩
  rcases gen zs 0 with h | h
  · have := h.2; unfold idxOfS; omega
  · unfold idxOfS; omega

/-- The columns' list, one more behind it, laid in its field. -/
theorem Rep.col {B sb : Nat} {S : Sch} {W0 W1 : World} {cv iv v1 : Value} {x : S56} (h0 : B ≤ sb) (h1 : B ≤ W0.heap.size) (hs : W0.heap[sb]? = some (.cells #[.string S.name, cv, .int .i64 S.key, iv] 25 (0, 0))) (hc : k56.R 56 W0 B (fun _ => True) cv S.cols) (hi : k40.R 40 W0 B (fun _ => True) iv S.idxs)
    (hR : k56.R 56 W1 B (fun _ => True) v1 (S.cols ++ [x])) (hg : W0.drew.grownBy W1 cv.ownBlock) :
    W1.heap[sb]? = some (.cells #[.string S.name, cv, .int .i64 S.key, iv] 25 (0, 0)) ∧ Rep B sb { S with cols := S.cols ++ [x] } (W1.setCell ⟨sb, 1, none⟩ v1) ∧ Fr B sb W0 (W1.setCell ⟨sb, 1, none⟩ v1) := by
  have hne := Kd.R_ne hc hs (by decide)
  have hs1 := (hg.block sb (blk_lt hs) hne).trans hs
  have hsz : W0.heap.size ≤ W1.heap.size := hg.size
  refine ⟨hs1, ⟨h0, by simp; omega, v1, iv, blk_put (cs := #[.string S.name, cv, .int .i64 S.key, iv]) hs1 1 _ rfl, Kd.R_set hR hs1 (by decide) 1 _, Kd.R_set (Kd.R_over (Kd.R_drew hi) (Kd.R_drew hc) (by decide) hg) hs1 (by decide) 1 _⟩, ?_⟩
  exact ((Fr.refl B sb W0).drew.trans (Fr.grown hg h1 (Kd.R_base hc) (Kd.R_typed hc) (.inl rfl))).trans (Fr.setCell h0 _ 1 _)

theorem Rep.col' {B sb pb : Nat} {pc : Array Value} {S : Sch} {W0 W1 : World} {cv iv v1 : Value} {x : S56} (h0 : B ≤ sb) (h1 : B ≤ W0.heap.size) (hs : W0.heap[sb]? = some (.cells #[.string S.name, cv, .int .i64 S.key, iv] 25 (0, 0))) (hc : k56.R 56 W0 B (fun _ => True) cv S.cols) (hi : k40.R 40 W0 B (fun _ => True) iv S.idxs)
    (hR : k56.R 56 W1 B (fun _ => True) v1 (S.cols ++ [x])) (hg : W0.drew.grownBy W1 cv.ownBlock)
    (hp : W0.heap[pb]? = some (.cells pc 52 (0, 0))) : ∃ A3 n3, v1 = .slice A3 (S.cols.length + 1) n3 ∧ W1.cell? ⟨pb, 0, none⟩ = pc[0]? ∧ W1.cell? ⟨sb, 1, none⟩ = some cv ∧ W1.frozen? ⟨sb, 1, none⟩ = false ∧ Aside0 (Rep B sb { S with cols := S.cols ++ [x] } (W1.setCell ⟨sb, 1, none⟩ v1) ∧ Fr B sb W0 (W1.setCell ⟨sb, 1, none⟩ v1)) := by
  obtain ⟨a, b⟩ := Rep.col h0 h1 hs hc hi hR hg
  obtain ⟨A3, n3, hv⟩ := Kd.R_slice hR
  exact ⟨A3, n3, by rw [hv]; simp, blk_cell ((hg.block pb (blk_lt hp) (Kd.R_ne hc hp (by decide))).trans hp) 0, (blk_cell a 1).trans rfl, blk_frozen a 1, ⟨b⟩⟩

theorem read2_few (wb pb : Nat) (A : Option Addr) (n c : Nat) (hn : n ≠ 2) (p : Value) (w : World)
    (HW : w.heap[wb]? = some (.cells #[.slice A n c] 48 (0, 0))) :
    Calls Tryd.prog 33 #[.pointer (some ⟨wb, 0, none⟩), p] w fun e w' => e = .panicked noneChain ∧ w' = w := by
  have c1 := (blk_cell HW 0).trans rfl
  have hb : ((n : Int) == 2) = false := by simp; omega
  clear HW
  go_enter Tryd.func33, Tryd.ntmps33
  go_wp2_with (first | (refine (must_no _).mono ?_; rintro e w1 ⟨rfl, rfl⟩))
  exact ⟨rfl, rfl, rfl⟩

set_option maxHeartbeats 16000000 in
set_option maxRecDepth 100000 in
theorem read2_calls (B sb wb pb c : Nat) (A : Option Addr) (S : Sch) (n k : ByteArray) (w : World) (HW : w.heap[wb]? = some (.cells #[.slice A 2 c] 48 (0, 0))) (HP : w.heap[pb]? = some (.cells #[.pointer (some ⟨sb, 0, none⟩)] 52 (0, 0)))
    (hC : Kd.string.C w A 2 [n, k]) (hR : Rep B sb S w) (hk : ∀ i, i < 4 → w.cell? ⟨0, i, none⟩ = some (.string (kindsB.getD i ByteArray.empty))) (hks : k.size ≤ 2000000) (hcl : S.cols.length ≤ 2000000) :
    Calls Tryd.prog 33 #[.pointer (some ⟨wb, 0, none⟩), .pointer (some ⟨pb, 0, none⟩)] w (StepPost B sb S (readColumn S [n, k]) w) := by
  obtain ⟨bk, o, hA, _, hcells⟩ := strings_at hC (by simp)
  subst hA
  have w0 := hcells 0 n rfl
  have w1 := hcells 1 k rfl
  rw [Nat.add_zero] at w0
  have c1 := (blk_cell HW 0).trans rfl
  obtain ⟨kd, hkd⟩ : ∃ kd, kd = mkB (trimSuffix k.data.toList [63]) := ⟨_, rfl⟩
  obtain ⟨nl, hnl⟩ : ∃ nl, nl = hasSuffix k.data.toList [63] := ⟨_, rfl⟩
  have hcut : ∀ w : World, Calls Tryd.prog 34 #[.string k, .string ⟨#[63]⟩] w fun e w' => e = .returned (.tuple #[.string kd, .bool nl]) ∧ w' = w := fun w => by
    rw [hkd, hnl]; exact Tryd.strings_CutSuffix k ⟨#[63]⟩ w (by omega)
  have hix := index_kinds kd w hk
  obtain ⟨q, hq⟩ : ∃ q, q = idxOfS kindsB kd := ⟨_, rfl⟩
  have hqb := idxOfS_le kindsB kd
  rw [← hq] at hix hqb
  have hq4 : q < 4 := hqb.2
  have HCUT := Aside0.mk hcut
  have HIX := Aside0.mk hix
  have HQ := Aside0.mk (show readColumn S [n, k] = if 0 < q then some { S with cols := S.cols ++ [⟨n, q, nl⟩] } else none by
    unfold readColumn kindOf; rw [hq, hkd, hnl])
  have HWW := Aside0.mk HW
  have HPP := Aside0.mk HP
  have HRR := Aside0.mk hR
  clear hcut hix hq hkd hnl hqb HW HP hR hC hcells hk
  go_enter Tryd.func33, Tryd.ntmps33
  go_wp2_with (fail)
  refine (must_ok _).mono ?_
  rintro e w2 ⟨rfl, rfl⟩
  go_wp2_with (fail)
  refine (HCUT.out _).mono ?_
  rintro e w2 ⟨rfl, rfl⟩
  go_wp2_with (fail)
  refine HIX.out.mono ?_
  rintro e w2 ⟨rfl, rfl⟩
  by_cases h0 : 0 < q
  · have t0 : decide (0 < q) = true := decide_eq_true h0
    have H0 := Aside0.mk h0
    clear h0
    go_wp2_with (fail)
    refine (must_ok _).mono ?_
    rintro e w2 ⟨rfl, rfl⟩
    have hRr := HRR.out
    obtain ⟨h0r, h1r, cv, iv, hs, hc, hi⟩ := hRr
    obtain ⟨A', n', hcv⟩ := Kd.R_slice hc
    subst hcv
    have c2 := (blk_cell HPP.out 0).trans rfl
    have s1 := (blk_cell hs 1).trans rfl
    have a1 := (World.cell?_alloc_lt w2 (.cells #[.string n, .int .i64 q, .bool nl] 56) ⟨sb, 1, none⟩ (blk_lt hs)).trans s1
    have a2 := (World.cell?_alloc_lt w2 (.cells #[.string n, .int .i64 q, .bool nl] 56) ⟨pb, 0, none⟩ (blk_lt HPP.out)).trans c2
    have HC' := Aside0.mk hc
    have HI' := Aside0.mk hi
    have HS' := Aside0.mk hs
    have H1R := Aside0.mk h1r
    have H0R := Aside0.mk h0r
    clear hc hi hs h1r h0r t0
    go_wp2_with (fail)
    go_region_law (refine Kd.R_append_step k56 (w0 := w2) (W := w2.drew) B (by rfl) (.tmp 26) (.tmp 33) 22 56 (.agg #[.string ⟨#[]⟩, .int .i64 0, .bool false]) 32 (by rfl) Tryd.underlying22 info56 (by rfl) (by decide) (by decide) (.slice A' S.cols.length n') S.cols ⟨n, q, nl⟩ [.string n, .int .i64 q, .bool nl] (fun _ => True) (fun _ => False) (by rfl) (by rfl) (k56_mkM _ _ _ _) (fun _ h => h.elim) (fun _ _ => trivial) (Kd.R_drew HC'.out) (below_drew (Below.refl _ _)) H1R.out (by omega) ?_; intro v1 w3 hR3 hB3 hg3 hat3; obtain ⟨A3, n3, hv3, p3, s3, f3, HFIN⟩ := Rep.col' H0R.out H1R.out HS'.out HC'.out HI'.out hR3 hg3 HPP.out; subst hv3; clear hR3 hB3 hg3 hat3)
    all_goals (go_wp2; go_end0; rw [HQ.out, if_pos H0.out]; exact StepPost.some HFIN.out.1 HFIN.out.2)
  · have t0 : decide (0 < q) = false := decide_eq_false h0
    have H0 := Aside0.mk h0
    clear h0
    go_wp2_with (fail)
    refine (must_no _).mono ?_
    rintro e w2 ⟨rfl, rfl⟩
    go_wp2
    exact ⟨rfl, by rw [HQ.out, if_neg (by have := H0.out; omega)]; exact StepPost.none HRR.out (Fr.refl _ _ _)⟩
end Go.Proofs.YtfkbpjeocljflaaDoor
