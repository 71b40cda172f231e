/-
  The law TableText itself: of every schema that may be the text is read again; of every text that is none the zero schema.
-/
import Derived.Test.YtfkbpjeocljflaaDoorParse
import Derived.Test.YtfkbpjeocljflaaDoorSame
namespace Go.Proofs.YtfkbpjeocljflaaDoor
open Go Go.RowKit Go.Lib Go.Proofs.YtfkbpjeocljflaaDoor.PTableText Go.Proofs.YtfkbpjeocljflaaDoorW.PrintWords Go.Proofs.YtfkbpjeocljflaaDoorW.PrintLast Go.Proofs.YtfkbpjeocljflaaDoorW.PrintMore
set_option linter.unusedVariables false
set_option linter.unusedSimpArgs false

theorem text_size {S : Sch} (g : Good S) : S.text.size ≤ 1500 := by
  unfold Sch.text
  rw [mkB_size, ← T3_all]
  exact T3_le g _
theorem small_of_good {S : Sch} (g : Good S) : S.Small := by
  refine ⟨?_, ?_, fun c hc => ?_, ?_, fun x hx => ⟨?_, ?_⟩⟩
  · have := (nm_letters g.name).2.1; omega
  · have := g.colMany.2; omega
  · obtain ⟨i, hi, rfl⟩ := List.mem_iff_getElem.1 hc
    have h := (nm_letters (g.colName i hi)).2.1
    rw [List.getD_eq_getElem?_getD, List.getElem?_eq_getElem hi, Option.getD_some] at h
    omega
  · have := g.idxMany; omega
  · have := (nm_letters (g.idxName x hx)).2.1; omega
  · have := (g.idxCols x hx).2.1; omega
theorem text_more (S : Sch) : S.text ++ ⟨#[10]⟩ = mkB (S.textL ++ [10]) := by
  apply ext_data
  rw [mkB_data]
  unfold Sch.text
  simp [mkB]
theorem more_size {s : ByteArray} (h : s.size ≤ 1500) : (s ++ ⟨#[10]⟩).size ≤ 1100000 := by
  rw [ByteArray.size_append]
  have : (⟨#[10]⟩ : ByteArray).size = 1 := rfl
  omega
theorem textRes_ok {S : Sch} (h : S.ok = true) : textRes S = .tuple #[.string S.text, .int .i64 0] := by unfold textRes; rw [h]; rfl
theorem textRes_no {S : Sch} (h : S.ok = false) : textRes S = .tuple #[.string ⟨#[]⟩, .int .i64 260] := by unfold textRes; rw [h]; rfl
/-- The reference's word on a schema. -/
theorem ref_calls (S : Sch) (h : S.Small) (A A' : Option Addr) (c c' : Nat) (w : World) (hr : Kd.C k56 w A S.cols.length S.cols) (hc : S.cols.length ≤ c) (hx : Kd.C k40 w A' S.idxs.length S.idxs) (hc' : S.idxs.length ≤ c') :
    Calls Tryd.prog 5 #[.agg #[.string S.name, .slice A S.cols.length c, .int .i64 S.key, .slice A' S.idxs.length c']] w fun e w' => e = .returned (.bool S.ok) ∧ Below w.heap.size w w' := by
  obtain ⟨k, hk⟩ := (valid_law S h).some
  exact tidemarkref26_Valid.calls k S.name A c S.cols S.key A' c' S.idxs S.ok w hr hc hx hc' hk

set_option maxHeartbeats 4000000 in
set_option maxRecDepth 100000 in
theorem table_calls (S : Sch) (hsm : S.Small) (text : ByteArray) (hsz : text.size ≤ 1100000) (A A' : Option Addr) (c c' : Nat) (w : World) (m : Int) (hr : Kd.C k56 w A S.cols.length S.cols) (hc : S.cols.length ≤ c) (hx : Kd.C k40 w A' S.idxs.length S.idxs) (hc' : S.idxs.length ≤ c')
    (hL : Laid w) (he : Errs w) (hm : w.cell? ⟨1, 0, none⟩ = some (.int .i64 m)) :
    Calls Tryd.prog 3 #[.agg #[.string S.name, .slice A S.cols.length c, .int .i64 S.key, .slice A' S.idxs.length c', .string text]] w fun e w' => e = .returned (.bool true) ∧ Below w.heap.size w w' := by
  obtain ⟨W0, hW0⟩ : ∃ W0, W0 = w.alloc (.cells #[.string S.name, .slice A S.cols.length c, .int .i64 S.key, .slice A' S.idxs.length c', .string text] 27) := ⟨_, rfl⟩
  have b0 : W0.heap[w.heap.size]? = some (.cells #[.string S.name, .slice A S.cols.length c, .int .i64 S.key, .slice A' S.idxs.length c', .string text] 27 (0, 0)) := by rw [hW0]; exact World.alloc_heap_new w _
  have e0 : Below w.heap.size w W0 := by rw [hW0]; exact (Below.refl _ _).alloc (Nat.le_refl _) _
  have z0 : W0.heap.size = w.heap.size + 1 := by rw [hW0]; simp
  have HT := Aside0.mk (text_calls S A A' c c' W0 (Kd.C_below hr e0) (Kd.C_below hx e0) (hL.below e0))
  have HSM := Aside0.mk hsm
  have HSZ := Aside0.mk hsz
  have HR := Aside0.mk hr
  have HC := Aside0.mk hc
  have HX := Aside0.mk hx
  have HC' := Aside0.mk hc'
  have HL := Aside0.mk hL
  have HE := Aside0.mk he
  have HM := Aside0.mk hm
  have c0 := (blk_cell b0 0).trans rfl
  have c1 := (blk_cell b0 1).trans rfl
  have c2 := (blk_cell b0 2).trans rfl
  have c3 := (blk_cell b0 3).trans rfl
  have B0 := Aside0.mk b0
  have E0 := Aside0.mk e0
  have Z0 := Aside0.mk z0
  have HW0 := Aside0.mk hW0
  clear b0 e0 z0 hW0 hsm hsz hr hc hx hc' hL he hm
  go_enter Tryd.func3, Tryd.ntmps3
  go_wp2_with (fail)
  rw [← HW0.out]
  refine HT.out.mono ?_
  rintro e w1 ⟨rfl, hb1⟩
  have b1 := (hb1.block _ (by have := Z0.out; omega)).trans B0.out
  have E1 := Aside0.mk (E0.out.trans (hb1.mono (by have := E0.out.size; omega)))
  have Z1 := Aside0.mk (show w.heap.size + 1 ≤ w1.heap.size by have := hb1.size; have := Z0.out; omega)
  have B1 := Aside0.mk b1
  clear c0 c1 c2 c3
  have c0 := (blk_cell b1 0).trans rfl
  have c1 := (blk_cell b1 1).trans rfl
  have c2 := (blk_cell b1 2).trans rfl
  have c3 := (blk_cell b1 3).trans rfl
  have HV := Aside0.mk (ref_calls S HSM.out A A' c c' w1 (Kd.C_below HR.out E1.out) HC.out (Kd.C_below HX.out E1.out) HC'.out)
  clear b1 hb1 HT B0 E0 Z0 HW0
  cases hok : S.ok with
  | false =>
    rw [textRes_no hok]
    go_wp2_with (fail)
    refine HV.out.mono ?_
    rw [hok]
    rintro e w2 ⟨rfl, hb2⟩
    have E2 := Aside0.mk (E1.out.trans (hb2.mono E1.out.size))
    have b2 := (hb2.block _ (blk_lt B1.out)).trans B1.out
    have B2 := Aside0.mk b2
    have en : ((⟨#[]⟩ : ByteArray).toList == (⟨#[]⟩ : ByteArray).toList) = true := by simp
    clear c0 c1 c2 c3 hb2 b2 HV B1 E1 Z1
    have HP := Aside0.mk (parse_calls text w2 m HSZ.out (HL.out.below (E2.out)) (HE.out.below (E2.out)) ((Below.cell (p := ⟨1, 0, none⟩) E2.out (World.block_lt_of_cell? _ _ HM.out)).trans HM.out))
    have c4 := (blk_cell B2.out 4).trans rfl
    go_wp2_with (fail)
    refine HP.out.mono ?_
    clear HP c4
    cases hp : parseP text with
    | none =>
      rintro e w5 ⟨hb5, rfl⟩
      obtain ⟨W6, hW6⟩ : ∃ W6, W6 = w5.alloc (.cells #[.string ⟨#[]⟩, .slice none 0 0, .int .i64 0, .slice none 0 0] 25) := ⟨_, rfl⟩
      have d6 : W6.heap[w5.heap.size]? = some (.cells #[.string ⟨#[]⟩, .slice none 0 0, .int .i64 0, .slice none 0 0] 25 (0, 0)) := by rw [hW6]; exact World.alloc_heap_new w5 _
      have E6 := Aside0.mk (show Below w.heap.size w W6 by rw [hW6]; exact (E2.out.trans (hb5.mono E2.out.size)).alloc (by have := E2.out.size; have := hb5.size; omega) _)
      have d0 := (blk_cell d6 0).trans rfl
      have d1 := (blk_cell d6 1).trans rfl
      have d2 := (blk_cell d6 2).trans rfl
      have d3 := (blk_cell d6 3).trans rfl
      have HS := Aside0.mk (same_calls ⟨#[]⟩ [] 0 [] (fun x hx => by cases hx) none none none none 0 0 0 0 W6 ⟨rfl, by simp, fun h => absurd h (by simp)⟩ ⟨rfl, by simp, fun h => absurd h (by simp)⟩ ⟨rfl, by simp, fun h => absurd h (by simp)⟩ ⟨rfl, by simp, fun h => absurd h (by simp)⟩)
      have HW6 := Aside0.mk hW6
      clear hb5 d6 hW6
      go_wp2_with (fail)
      simp only [← HW6.out]
      go_wp2_with (fail)
      refine HS.out.mono ?_
      rintro e w7 ⟨rfl, hb7⟩
      have E7 := Aside0.mk (E6.out.trans (hb7.mono E6.out.size))
      clear d0 d1 d2 d3 hb7 HS HW6
      go_wp2_with (fail)
      go_ret
      exact ⟨rfl, E7.out⟩
    | some T =>
      rintro e w5 ⟨hb5, A2, n2, A3, n3, rfl, hn2, hn3, hC2, hC3⟩
      obtain ⟨hok2, htx⟩ := parseP_some hp
      obtain ⟨W6, hW6⟩ : ∃ W6, W6 = w5.alloc (.cells #[.string T.name, .slice A2 T.cols.length n2, .int .i64 T.key, .slice A3 T.idxs.length n3] 25) := ⟨_, rfl⟩
      have d6 : W6.heap[w5.heap.size]? = some (.cells #[.string T.name, .slice A2 T.cols.length n2, .int .i64 T.key, .slice A3 T.idxs.length n3] 25 (0, 0)) := by rw [hW6]; exact World.alloc_heap_new w5 _
      have E6 := Aside0.mk (show Below w.heap.size w W6 by rw [hW6]; exact (E2.out.trans (hb5.mono E2.out.size)).alloc (by have := E2.out.size; have := hb5.size; omega) _)
      have hg6 : Below w5.heap.size w5 W6 := by rw [hW6]; exact alloc_below _ _
      have b6 := (hg6.block _ (by have := hb5.size; have := blk_lt B2.out; omega)).trans ((hb5.block _ (blk_lt B2.out)).trans B2.out)
      have HC6 := Aside0.mk (Kd.C_below hC2 hg6)
      have HX6 := Aside0.mk (Kd.C_below hC3 hg6)
      have d0 := (blk_cell d6 0).trans rfl
      have d1 := (blk_cell d6 1).trans rfl
      have d2 := (blk_cell d6 2).trans rfl
      have d3 := (blk_cell d6 3).trans rfl
      have HS := Aside0.mk (text_calls T A2 A3 n2 n3 W6 HC6.out HX6.out (HL.out.below (E6.out)))
      have HW6 := Aside0.mk hW6
      have HN := Aside0.mk (And.intro hn2 hn3)
      have HOK2 := Aside0.mk hok2
      have HTX := Aside0.mk htx
      have D6 := Aside0.mk d6
      have B6 := Aside0.mk b6
      clear hb5 d6 hW6 b6 hg6 hC2 hC3 hn2 hn3 hok2 htx
      go_wp2_with (fail)
      simp only [← HW6.out]
      go_wp2_with (fail)
      refine HS.out.mono ?_
      rw [textRes_ok HOK2.out, HTX.out]
      rintro e w7 ⟨rfl, hb7⟩
      have E7 := Aside0.mk (E6.out.trans (hb7.mono E6.out.size))
      have d7 := (hb7.block _ (blk_lt D6.out)).trans D6.out
      have b7 := (hb7.block _ (blk_lt B6.out)).trans B6.out
      clear d0 d1 d2 d3
      have d0 := (blk_cell d7 0).trans rfl
      have d1 := (blk_cell d7 1).trans rfl
      have d2 := (blk_cell d7 2).trans rfl
      have d3 := (blk_cell d7 3).trans rfl
      have c4 := (blk_cell b7 4).trans rfl
      have HV2 := Aside0.mk (ref_calls T (small_of_good (good_of_ok HOK2.out)) A2 A3 n2 n3 w7 (Kd.C_below HC6.out hb7) HN.out.1 (Kd.C_below HX6.out hb7) HN.out.2)
      have et : (text.toList == text.toList) = true := by simp
      clear hb7 d7 b7 HS HW6
      go_wp2_with (fail)
      refine HV2.out.mono ?_
      rw [HOK2.out]
      rintro e w8 ⟨rfl, hb8⟩
      have E8 := Aside0.mk (E7.out.trans (hb8.mono E7.out.size))
      clear d0 d1 d2 d3 c4 hb8 HV2
      go_wp2_with (fail)
      go_ret
      exact ⟨rfl, E8.out⟩
  | true =>
    rw [textRes_ok hok]
    go_wp2_with (fail)
    refine HV.out.mono ?_
    rw [hok]
    rintro e w2 ⟨rfl, hb2⟩
    have E2 := Aside0.mk (E1.out.trans (hb2.mono E1.out.size))
    have b2 := (hb2.block _ (blk_lt B1.out)).trans B1.out
    have B2 := Aside0.mk b2
    have G := Aside0.mk (good_of_ok hok)
    have HP1 := Aside0.mk (parse_calls S.text w2 m (by have := text_size G.out; omega) (HL.out.below (E2.out)) (HE.out.below (E2.out)) ((Below.cell (p := ⟨1, 0, none⟩) E2.out (World.block_lt_of_cell? _ _ HM.out)).trans HM.out))
    rw [parseP_text hok] at HP1
    have HOK := Aside0.mk hok
    clear c0 c1 c2 c3 hb2 b2 HV B1 E1 Z1 hok
    go_wp2_with (fail)
    refine HP1.out.mono ?_
    rintro e w3 ⟨hb3, A2, n2, A3, n3, rfl, hn2, hn3, hC2, hC3⟩
    obtain ⟨W4, hW4⟩ : ∃ W4, W4 = w3.alloc (.cells #[.string S.name, .slice A2 S.cols.length n2, .int .i64 S.key, .slice A3 S.idxs.length n3] 25) := ⟨_, rfl⟩
    have d4 : W4.heap[w3.heap.size]? = some (.cells #[.string S.name, .slice A2 S.cols.length n2, .int .i64 S.key, .slice A3 S.idxs.length n3] 25 (0, 0)) := by rw [hW4]; exact World.alloc_heap_new w3 _
    have E4 := Aside0.mk (show Below w.heap.size w W4 by rw [hW4]; exact (E2.out.trans (hb3.mono E2.out.size)).alloc (by have := E2.out.size; have := hb3.size; omega) _)
    have hg4 : Below w3.heap.size w3 W4 := by rw [hW4]; exact alloc_below _ _
    have b4 := (hg4.block _ (by have := hb3.size; have := blk_lt B2.out; omega)).trans ((hb3.block _ (blk_lt B2.out)).trans B2.out)
    have HS1 := Aside0.mk (same_calls S.name S.cols S.key S.idxs (fun x hx => (HSM.out.idx x hx).2) A2 A3 A A' n2 n3 c c' W4 (Kd.C_below hC2 hg4) (Kd.C_below hC3 hg4) (Kd.C_below HR.out E4.out) (Kd.C_below HX.out E4.out))
    have d0 := (blk_cell d4 0).trans rfl
    have d1 := (blk_cell d4 1).trans rfl
    have d2 := (blk_cell d4 2).trans rfl
    have d3 := (blk_cell d4 3).trans rfl
    have c0 := (blk_cell b4 0).trans rfl
    have c1 := (blk_cell b4 1).trans rfl
    have c2 := (blk_cell b4 2).trans rfl
    have c3 := (blk_cell b4 3).trans rfl
    have HW4 := Aside0.mk hW4
    have B4 := Aside0.mk b4
    rw [hW4] at c0 c1 c2 c3
    clear hb3 hn2 hn3 hC2 hC3 d4 hg4 b4 hW4 HP1 d0 d1 d2 d3
    go_wp2_with (fail)
    rw [← HW4.out]
    refine HS1.out.mono ?_
    rintro e w5 ⟨rfl, hb5⟩
    have E5 := Aside0.mk (E4.out.trans (hb5.mono E4.out.size))
    have B5 := Aside0.mk ((hb5.block _ (blk_lt B4.out)).trans B4.out)
    have HP2 := Aside0.mk (parse_calls (S.text ++ ⟨#[10]⟩) w5 m (more_size (text_size G.out)) (HL.out.below (E5.out)) (HE.out.below (E5.out)) ((Below.cell (p := ⟨1, 0, none⟩) E5.out (World.block_lt_of_cell? _ _ HM.out)).trans HM.out))
    rw [text_more, parseP_more HOK.out, ← text_more] at HP2
    have hks : S.text.size ≤ 1500 := text_size G.out
    clear c0 c1 c2 c3 hb5 HS1 HW4
    go_wp2_with (fail)
    refine HP2.out.mono ?_
    rintro e w6 ⟨hb6, rfl⟩
    have E6' := Aside0.mk (E5.out.trans (hb6.mono E5.out.size))
    have B6' := Aside0.mk ((hb6.block _ (blk_lt B5.out)).trans B5.out)
    clear hb6 HP2
    have HP := Aside0.mk (parse_calls text w6 m HSZ.out (HL.out.below (E6'.out)) (HE.out.below (E6'.out)) ((Below.cell (p := ⟨1, 0, none⟩) E6'.out (World.block_lt_of_cell? _ _ HM.out)).trans HM.out))
    have c4 := (blk_cell B6'.out 4).trans rfl
    go_wp2_with (fail)
    refine HP.out.mono ?_
    clear HP c4
    cases hp : parseP text with
    | none =>
      rintro e w5 ⟨hb5, rfl⟩
      obtain ⟨W6, hW6⟩ : ∃ W6, W6 = w5.alloc (.cells #[.string ⟨#[]⟩, .slice none 0 0, .int .i64 0, .slice none 0 0] 25) := ⟨_, rfl⟩
      have d6 : W6.heap[w5.heap.size]? = some (.cells #[.string ⟨#[]⟩, .slice none 0 0, .int .i64 0, .slice none 0 0] 25 (0, 0)) := by rw [hW6]; exact World.alloc_heap_new w5 _
      have E6 := Aside0.mk (show Below w.heap.size w W6 by rw [hW6]; exact (E6'.out.trans (hb5.mono E6'.out.size)).alloc (by have := E6'.out.size; have := hb5.size; omega) _)
      have d0 := (blk_cell d6 0).trans rfl
      have d1 := (blk_cell d6 1).trans rfl
      have d2 := (blk_cell d6 2).trans rfl
      have d3 := (blk_cell d6 3).trans rfl
      have HS := Aside0.mk (same_calls ⟨#[]⟩ [] 0 [] (fun x hx => by cases hx) none none none none 0 0 0 0 W6 ⟨rfl, by simp, fun h => absurd h (by simp)⟩ ⟨rfl, by simp, fun h => absurd h (by simp)⟩ ⟨rfl, by simp, fun h => absurd h (by simp)⟩ ⟨rfl, by simp, fun h => absurd h (by simp)⟩)
      have HW6 := Aside0.mk hW6
      clear hb5 d6 hW6
      go_wp2_with (fail)
      simp only [← HW6.out]
      go_wp2_with (fail)
      refine HS.out.mono ?_
      rintro e w7 ⟨rfl, hb7⟩
      have E7 := Aside0.mk (E6.out.trans (hb7.mono E6.out.size))
      clear d0 d1 d2 d3 hb7 HS HW6
      go_wp2_with (fail)
      go_ret
      exact ⟨rfl, E7.out⟩
    | some T =>
      rintro e w5 ⟨hb5, A2, n2, A3, n3, rfl, hn2, hn3, hC2, hC3⟩
      obtain ⟨hok2, htx⟩ := parseP_some hp
      obtain ⟨W6, hW6⟩ : ∃ W6, W6 = w5.alloc (.cells #[.string T.name, .slice A2 T.cols.length n2, .int .i64 T.key, .slice A3 T.idxs.length n3] 25) := ⟨_, rfl⟩
      have d6 : W6.heap[w5.heap.size]? = some (.cells #[.string T.name, .slice A2 T.cols.length n2, .int .i64 T.key, .slice A3 T.idxs.length n3] 25 (0, 0)) := by rw [hW6]; exact World.alloc_heap_new w5 _
      have E6 := Aside0.mk (show Below w.heap.size w W6 by rw [hW6]; exact (E6'.out.trans (hb5.mono E6'.out.size)).alloc (by have := E6'.out.size; have := hb5.size; omega) _)
      have hg6 : Below w5.heap.size w5 W6 := by rw [hW6]; exact alloc_below _ _
      have b6 := (hg6.block _ (by have := hb5.size; have := blk_lt B6'.out; omega)).trans ((hb5.block _ (blk_lt B6'.out)).trans B6'.out)
      have HC6 := Aside0.mk (Kd.C_below hC2 hg6)
      have HX6 := Aside0.mk (Kd.C_below hC3 hg6)
      have d0 := (blk_cell d6 0).trans rfl
      have d1 := (blk_cell d6 1).trans rfl
      have d2 := (blk_cell d6 2).trans rfl
      have d3 := (blk_cell d6 3).trans rfl
      have HS := Aside0.mk (text_calls T A2 A3 n2 n3 W6 HC6.out HX6.out (HL.out.below (E6.out)))
      have HW6 := Aside0.mk hW6
      have HN := Aside0.mk (And.intro hn2 hn3)
      have HOK2 := Aside0.mk hok2
      have HTX := Aside0.mk htx
      have D6 := Aside0.mk d6
      have B6 := Aside0.mk b6
      clear hb5 d6 hW6 b6 hg6 hC2 hC3 hn2 hn3 hok2 htx
      go_wp2_with (fail)
      simp only [← HW6.out]
      go_wp2_with (fail)
      refine HS.out.mono ?_
      rw [textRes_ok HOK2.out, HTX.out]
      rintro e w7 ⟨rfl, hb7⟩
      have E7 := Aside0.mk (E6.out.trans (hb7.mono E6.out.size))
      have d7 := (hb7.block _ (blk_lt D6.out)).trans D6.out
      have b7 := (hb7.block _ (blk_lt B6.out)).trans B6.out
      clear d0 d1 d2 d3
      have d0 := (blk_cell d7 0).trans rfl
      have d1 := (blk_cell d7 1).trans rfl
      have d2 := (blk_cell d7 2).trans rfl
      have d3 := (blk_cell d7 3).trans rfl
      have c4 := (blk_cell b7 4).trans rfl
      have HV2 := Aside0.mk (ref_calls T (small_of_good (good_of_ok HOK2.out)) A2 A3 n2 n3 w7 (Kd.C_below HC6.out hb7) HN.out.1 (Kd.C_below HX6.out hb7) HN.out.2)
      have et : (text.toList == text.toList) = true := by simp
      clear hb7 d7 b7 HS HW6
      go_wp2_with (fail)
      refine HV2.out.mono ?_
      rw [HOK2.out]
      rintro e w8 ⟨rfl, hb8⟩
      have E8 := Aside0.mk (E7.out.trans (hb8.mono E7.out.size))
      clear d0 d1 d2 d3 c4 hb8 HV2
      go_wp2_with (fail)
      go_ret
      exact ⟨rfl, E8.out⟩
end Go.Proofs.YtfkbpjeocljflaaDoor
