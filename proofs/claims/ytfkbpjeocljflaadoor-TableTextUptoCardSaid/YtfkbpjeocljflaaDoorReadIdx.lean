/-
  readIndex.
-/
import Derived.Test.YtfkbpjeocljflaaDoorRead3
import Derived.Deep.RegionLaw
/-
  slices.IndexFunc over the columns, its closure.
-/
namespace Go.Proofs.YtfkbpjeocljflaaDoor
open Go Go.RowKit Go.Lib Go.Proofs.YtfkbpjeocljflaaDoor.PTableText Go.Proofs.YtfkbpjeocljflaaDoorW.PrintWords Go.Proofs.YtfkbpjeocljflaaDoorW.PrintLast Go.Proofs.YtfkbpjeocljflaaDoorW.PrintMore
set_option linter.unusedVariables false
set_option linter.unusedSimpArgs false

theorem same_name (s : ByteArray) (kd : Int) (nl : Bool) (name : ByteArray) (xb : Nat) (w : World) (hx : w.cell? ⟨xb, 0, none⟩ = some (.string name)) :
    Calls Tryd.prog 56 #[.agg #[.string s, .int .i64 kd, .bool nl], .pointer (some ⟨xb, 0, none⟩)] w fun e w' => e = .returned (.bool (s.toList == name.toList)) ∧ Below w.heap.size w w' := by
  have hlt : xb < w.heap.size := World.block_lt_of_cell? _ _ hx
  have hx2 := (World.cell?_alloc_lt w (.cells #[.string s, .int .i64 kd, .bool nl] 56) ⟨xb, 0, none⟩ hlt).trans hx
  go_enter Tryd.func56, Tryd.ntmps56
  go_wp2
  go_ret
  exact ⟨rfl, alloc_below _ _⟩
theorem colAt_hit {cols : List S56} {name : ByteArray} {k : Nat} (hk : k < cols.length) (he : (rd_T56 cols k).f0 = name) (hne : ∀ j, j < k → (rd_T56 cols (j : Nat)).f0 ≠ name) : colAt cols name = k := by
  have hg : ∀ j : Nat, j < cols.length → (cols.map (·.f0)).getD j ByteArray.empty = (rd_T56 cols (j : Nat)).f0 := fun j hj => by
    simp [rd_T56, List.getD_eq_getElem?_getD, List.getElem?_eq_getElem hj]
  have := idxOfS_hit (cols.map (·.f0)) cols.length k name hk (by simp) ((hg k hk).trans he) (fun j hj => by rw [hg j (by omega)]; exact hne j hj)
  rw [List.take_of_length_le (by simp)] at this
  exact this
theorem colAt_miss {cols : List S56} {name : ByteArray} (hne : ∀ j, j < cols.length → (rd_T56 cols (j : Nat)).f0 ≠ name) : colAt cols name = -1 := by
  have hg : ∀ j : Nat, j < cols.length → (cols.map (·.f0)).getD j ByteArray.empty = (rd_T56 cols (j : Nat)).f0 := fun j hj => by
    simp [rd_T56, List.getD_eq_getElem?_getD, List.getElem?_eq_getElem hj]
  have := idxOfS_miss (cols.map (·.f0)) cols.length name (fun j hj => by rw [hg j hj]; exact hne j hj)
  rw [List.take_of_length_le (by simp)] at this
  exact this

set_option maxRecDepth 100000 in
theorem indexFunc_calls (cols : List S56) (A : Option Addr) (n c : Nat) (hn : n = cols.length) (name : ByteArray) (xb : Nat) (w : World) (hr : Kd.C k56 w A cols.length cols) (hx : w.cell? ⟨xb, 0, none⟩ = some (.string name)) :
    Calls Tryd.prog 55 #[.slice A n c, .func (.func 56) #[] #[.pointer (some ⟨xb, 0, none⟩)]] w fun e w' => e = .returned (.int .i64 (colAt cols name)) ∧ Below w.heap.size w w' := by
  subst hn
  have HR := Aside0.mk hr
  have HX := Aside0.mk hx
  have hmax : cols.length ≤ 9223372036854775807 := Kd.C_max hr
  clear hr hx
  go_enter Tryd.func55, Tryd.ntmps55
  go_wp2
  go_loopw [8] (fun v wr => ∃ k : Nat, k ≤ cols.length ∧ v = .int .i64 k ∧ Aside0 (Below w.heap.size w wr) ∧ Aside0 (∀ j, j < k → (rd_T56 cols (j : Nat)).f0 ≠ name)) (fun v _ => cols.length - (intOf v).toNat)
  case atStart => exact ⟨0, Nat.zero_le _, rfl, ⟨Below.refl _ _⟩, ⟨fun j hj => by omega⟩⟩
  case round =>
    obtain ⟨k, hk, rfl, HB, HN⟩ := hrel
    by_cases hlt : k < cols.length
    · obtain ⟨ad, hA, hc0, hc1, hc2⟩ := at_T56 (Kd.C_below HR.out HB.out) (k : Int) (by omega) (by omega)
      subst hA
      simp only [Int.toNat_natCast] at hc0 hc1 hc2
      obtain ⟨x, hxx⟩ : ∃ x, x = rd_T56 cols (k : Int) := ⟨_, rfl⟩
      rw [← hxx] at hc0 hc1 hc2
      have HXX := Aside0.mk hxx
      clear hxx
      obtain ⟨s, kd, nl⟩ := x
      simp only at hc0 hc1 hc2
      go_wp2_with (fail)
      refine (same_name s kd nl name xb wr (pw_cell_below HB.out HX.out)).mono ?_
      rintro e w1 ⟨rfl, hb1⟩
      have HB1 := Aside0.mk (HB.out.trans (hb1.mono HB.out.size))
      clear hb1 hc0 hc1 hc2
      by_cases he : s = name
      · have t0 : (s.toList == name.toList) = true := by rw [he]; simp
        have HE := Aside0.mk (colAt_hit hlt (by rw [← HXX.out]; exact he) HN.out)
        have HE2 := Aside0.mk he
        clear he
        go_wp2
        go_ret
        exact ⟨by rw [HE.out]; rfl, HB1.out⟩
      · have t0 : (s.toList == name.toList) = false := (bytes_beq_false_iff s name).2 he
        have HE2 := Aside0.mk he
        clear he
        go_wp2
        go_roundw
        case rel => exact ⟨k + 1, by omega, by go_num, HB1, ⟨fun j hj => by
          by_cases e : j = k
          · subst e; rw [← HXX.out]; exact HE2.out
          · exact HN.out j (by omega)⟩⟩
        case measure => simp [intOf]; omega
    · have HE := Aside0.mk (colAt_miss (cols := cols) (name := name) (fun j hj => HN.out j (by omega)))
      go_wp2
      go_ret
      exact ⟨by rw [HE.out]; rfl, HB.out⟩
end Go.Proofs.YtfkbpjeocljflaaDoor

namespace Go.Proofs.YtfkbpjeocljflaaDoor
open Go Go.RowKit Go.Lib Go.Proofs.YtfkbpjeocljflaaDoor.PTableText Go.Proofs.YtfkbpjeocljflaaDoorW.PrintWords Go.Proofs.YtfkbpjeocljflaaDoorW.PrintLast Go.Proofs.YtfkbpjeocljflaaDoorW.PrintMore
set_option linter.unusedVariables false
set_option linter.unusedSimpArgs false

theorem info3 : (Tryd.prog.info? 3).map (fun i => (i.zero, i.size, i.bytes)) = some (some (.int .i64 0), (Kd.int .i64).sz, 8) := by kernel_rfl
theorem info40 : (Tryd.prog.info? 40).map (fun i => (i.zero, i.size, i.bytes)) = some (some (.agg #[.string ⟨#[]⟩, .slice none 0 0, .bool false]), k40.sz, 48) := by kernel_rfl

theorem int_appended {w2 w4 w5 : World} {n : ByteArray} {u : Bool} {xv v1 : Value} {ps : List Int} {p : Int} (hx : w4.heap[w2.heap.size]? = some (.cells #[.string n, xv, .bool u] 40 (0, 0))) (hR : (Kd.int .i64).R 3 w4 w2.heap.size (fun _ => True) xv ps)
    (hR5 : (Kd.int .i64).R 3 w5 w2.heap.size (fun _ => True) v1 (ps ++ [p])) (hB5 : Below w2.heap.size w2 w5) (hg5 : w4.grownBy w5 xv.ownBlock) :
    ∃ A5 n5, v1 = .slice A5 (ps.length + 1) n5 ∧ w5.cell? ⟨w2.heap.size, 1, none⟩ = some xv ∧ w5.frozen? ⟨w2.heap.size, 1, none⟩ = false ∧ Aside0 (w4.heap.size ≤ w5.heap.size) ∧
      Aside0 ((∃ xv, (w5.setCell ⟨w2.heap.size, 1, none⟩ v1).heap[w2.heap.size]? = some (.cells #[.string n, xv, .bool u] 40 (0, 0)) ∧ (Kd.int .i64).R 3 (w5.setCell ⟨w2.heap.size, 1, none⟩ v1) w2.heap.size (fun _ => True) xv (ps ++ [p])) ∧ Below w2.heap.size w2 (w5.setCell ⟨w2.heap.size, 1, none⟩ v1)) := by
  have hne := Kd.R_ne hR hx (by decide)
  have x5 := (hg5.block _ (blk_lt hx) hne).trans hx
  obtain ⟨A5, n5, hv5⟩ := Kd.R_slice hR5
  exact ⟨A5, n5, by rw [hv5]; simp, (blk_cell x5 1).trans rfl, blk_frozen x5 1, ⟨hg5.size⟩, ⟨⟨_, blk_put (cs := #[.string n, xv, .bool u]) x5 1 _ rfl, Kd.R_set hR5 x5 (by decide) 1 _⟩, hB5.setCell (p := ⟨w2.heap.size, 1, none⟩) (Nat.le_refl _) _⟩⟩

/-- The indexes' list, one more behind it, laid in its field. -/
theorem Rep.idx' {B sb : Nat} {S : Sch} {W0 W1 : World} {cv iv v1 : Value} {x : S40} (h0 : B ≤ sb) (h1 : B ≤ W0.heap.size) (hs : W0.heap[sb]? = some (.cells #[.string S.name, cv, .int .i64 S.key, iv] 25 (0, 0))) (hc : k56.R 56 W0 B (fun _ => True) cv S.cols) (hi : k40.R 40 W0 B (fun _ => True) iv S.idxs)
    (hR : k40.R 40 W1 B (fun _ => True) v1 (S.idxs ++ [x])) (hg : W0.drew.grownBy W1 iv.ownBlock) :
    ∃ A3 n3, v1 = .slice A3 (S.idxs.length + 1) n3 ∧ W1.cell? ⟨sb, 3, none⟩ = some iv ∧ W1.frozen? ⟨sb, 3, none⟩ = false ∧ Aside0 (Rep B sb { S with idxs := S.idxs ++ [x] } (W1.setCell ⟨sb, 3, none⟩ v1) ∧ Fr B sb W0 (W1.setCell ⟨sb, 3, none⟩ v1)) := by
  have hne := Kd.R_ne hi hs (by decide)
  have hs1 := (hg.block sb (blk_lt hs) hne).trans hs
  have hsz : W0.heap.size ≤ W1.heap.size := hg.size
  obtain ⟨A3, n3, hv⟩ := Kd.R_slice hR
  refine ⟨A3, n3, by rw [hv]; simp, (blk_cell hs1 3).trans rfl, blk_frozen hs1 3, ⟨⟨h0, by simp; omega, cv, v1, blk_put (cs := #[.string S.name, cv, .int .i64 S.key, iv]) hs1 3 _ rfl, Kd.R_set (Kd.R_over (Kd.R_drew hc) (Kd.R_drew hi) (by decide) hg) hs1 (by decide) 3 _, Kd.R_set hR hs1 (by decide) 3 _⟩, ?_⟩⟩
  exact ((Fr.refl B sb W0).drew.trans (Fr.grown hg h1 (Kd.R_base hi) (Kd.R_typed hi) (.inr rfl))).trans (Fr.setCell h0 _ 3 _)

theorem readIndex_few (n c : Nat) (A : Option Addr) (hn : n ≤ 1) (p u : Value) (w : World) :
    Calls Tryd.prog 39 #[p, .slice A n c, u] w fun e w' => e = .panicked noneChain ∧ w' = w := by
  have hb : decide ((1 : Int) < n) = false := decide_eq_false (by omega)
  go_enter Tryd.func39, Tryd.ntmps39
  go_wp2_with (first | (refine (must_no _).mono ?_; rintro e w1 ⟨rfl, rfl⟩))
  exact ⟨rfl, rfl, rfl⟩

/-- The columns' places of the first i words, if all are there. -/
theorem readCols_snoc (cols : List S56) : ∀ (ws : List ByteArray) (ps : List Int) (x : ByteArray), readCols cols ws = some ps → readCols cols (ws ++ [x]) = if 0 ≤ colAt cols x then some (ps ++ [colAt cols x]) else none
  | [], ps, x, h => by
    simp only [readCols] at h
    injection h with h
    subst h
    simp [readCols]
  | w :: ws, ps, x, h => by
    simp only [readCols, List.cons_append] at h ⊢
    by_cases hw : 0 ≤ colAt cols w
    · rw [if_pos hw] at h
      obtain ⟨qs, hq, rfl⟩ := Option.map_eq_some_iff.1 h
      rw [if_pos hw, readCols_snoc cols ws qs x hq]
      split <;> simp
    · rw [if_neg hw] at h; cases h
theorem readCols_bad (cols : List S56) : ∀ (ws : List ByteArray) (k : Nat) (h : k < ws.length), ¬ 0 ≤ colAt cols ws[k] → readCols cols ws = none
  | w :: ws, 0, _, hb => by
    simp only [readCols]
    rw [if_neg (by simpa using hb)]
  | w :: ws, k + 1, h, hb => by
    simp only [readCols]
    split
    · rw [readCols_bad cols ws k (by simpa using h) (by simpa using hb)]; rfl
    · rfl
theorem readCols_len (cols : List S56) : ∀ (ws : List ByteArray) (ps : List Int), readCols cols ws = some ps → ps.length = ws.length
  | [], ps, h => by simp only [readCols] at h; injection h with h; subst h; rfl
  | w :: ws, ps, h => by
    simp only [readCols] at h
    split at h
    · obtain ⟨qs, hq, rfl⟩ := Option.map_eq_some_iff.1 h
      simp [readCols_len cols ws qs hq]
    · cases h

set_option maxHeartbeats 8000000 in
set_option maxRecDepth 100000 in
theorem readIndex_calls (B sb c : Nat) (u : Bool) (A : Option Addr) (S : Sch) (n : ByteArray) (ws : List ByteArray) (h0 : 0 < ws.length) (w : World)
    (hC : Kd.string.C w A (ws.length + 1) (n :: ws)) (hcap : ws.length + 1 ≤ c) (hR : Rep B sb S w) (hws : ws.length ≤ 2000000) (hil : S.idxs.length ≤ 2000000) :
    Calls Tryd.prog 39 #[.pointer (some ⟨sb, 0, none⟩), .slice A (ws.length + 1) c, .bool u] w (StepPost B sb S ((readCols S.cols ws).map fun ps => { S with idxs := S.idxs ++ [⟨n, ps, u⟩] }) w) := by
  have hmf : ∀ (fn : Fn) (first cap : Array Value) (w : World), (Instr.makeFunc fn first cap).run Tryd.prog w = .ok (.func fn first cap) w := fun _ _ _ _ => rfl
  obtain ⟨bk, o, hA, hbk, hcells⟩ := strings_at hC (by simp)
  subst hA
  have w0 := hcells 0 n rfl
  rw [Nat.add_zero] at w0
  have t1 : decide ((1 : Int) < (ws.length : Int) + 1) = true := decide_eq_true (by omega)
  have hc1 : ¬ c = 1 := by omega
  have hcells' : ∀ (j : Nat) x, ws[j]? = some x → w.cell? ⟨bk, o + 1 + j, none⟩ = some (.string x) := fun j x hj => by
    have := hcells (j + 1) x (by simpa using hj)
    rwa [show o + (j + 1) = o + 1 + j by omega] at this
  have HCE := Aside0.mk hcells'
  have HRR := Aside0.mk hR
  have HBK := Aside0.mk hbk
  clear hC hcells hcells' hR
  go_enter Tryd.func39, Tryd.ntmps39
  go_wp2_with (fail)
  refine (must_ok _).mono ?_
  rintro e w2 ⟨rfl, rfl⟩
  obtain ⟨hr0, hr1, cv, iv, hs, hcR, hiR⟩ := HRR.out
  obtain ⟨A', n', hcv⟩ := Kd.R_slice hcR
  subst hcv
  obtain ⟨_, hcn, hcC⟩ := Kd.R_reads' hcR
  have HS := Aside0.mk hs
  have HCR := Aside0.mk hcC
  have hz := blk_lt hs
  have HZ := Aside0.mk hz
  clear hcR hiR hs hcC hz
  go_wp2_with (fail)
  clear w0 t1 hc1
  go_loopw [22] (fun v wr => ∃ (i : Nat) (ps : List Int), i ≤ ws.length ∧ v = .int .i64 i ∧ Aside0 (readCols S.cols (ws.take i) = some ps) ∧
      Aside0 (∃ xv, wr.heap[w2.heap.size]? = some (.cells #[.string n, xv, .bool u] 40 (0, 0)) ∧ (Kd.int .i64).R 3 wr w2.heap.size (fun _ => True) xv ps) ∧ Aside0 (Below w2.heap.size w2 wr) ∧ Aside0 (w2.heap.size + 1 ≤ wr.heap.size)) (fun v _ => ws.length - (intOf v).toNat)
  case atStart =>
    exact ⟨0, [], Nat.zero_le _, rfl, ⟨rfl⟩, ⟨_, heap_alloc_new w2 _, Kd.R_nil _ _ _ _ _⟩, ⟨alloc_below _ _⟩, ⟨by simp⟩⟩
  case round =>
    obtain ⟨i, ps, hi, rfl, HP, HX, HE, HSZ⟩ := hrel
    obtain ⟨xv, hx0, hxR⟩ := HX.out
    have HX0 := Aside0.mk hx0
    have HXR := Aside0.mk hxR
    clear hx0 hxR HX
    by_cases hlt : i < ws.length
    · obtain ⟨x, hx⟩ : ∃ x, x = ws[i] := ⟨_, rfl⟩
      have hxi : ws[i]? = some x := by rw [hx]; exact List.getElem?_eq_getElem hlt
      have hcx := (HE.out.cell (p := ⟨bk, o + 1 + i, none⟩) HBK.out).trans (HCE.out i x hxi)
      have HXI := Aside0.mk hx
      clear hx hxi
      have hzz := HZ.out
      have hsz := HSZ.out
      obtain ⟨W1, hW1⟩ : ∃ W1, W1 = wr.alloc (.cells #[.string x] 9) := ⟨_, rfl⟩
      have z1 : W1.heap.size = wr.heap.size + 1 := by rw [hW1]; simp
      have b1 : Below wr.heap.size wr W1 := by rw [hW1]; exact alloc_below _ _
      have x1 : W1.heap[wr.heap.size]? = some (.cells #[.string x] 9 (0, 0)) := by rw [hW1]; exact heap_alloc_new _ _
      have s1 : W1.heap[sb]? = some (.cells #[.string S.name, .slice A' S.cols.length n', .int .i64 S.key, iv] 25 (0, 0)) := (b1.block _ (by omega)).trans ((HE.out.block _ hzz).trans HS.out)
      have q1 := (blk_cell s1 1).trans rfl
      rw [hW1] at q1
      have HIF := Aside0.mk (indexFunc_calls S.cols A' S.cols.length n' rfl x wr.heap.size W1 (Kd.C_below (Kd.C_below HCR.out HE.out) b1) ((blk_cell x1 0).trans rfl))
      have HW1 := Aside0.mk hW1
      have HB1 := Aside0.mk (HE.out.trans (b1.mono HE.out.size))
      have HX1 := Aside0.mk (hb_block b1 HX0.out)
      have HR1 := Aside0.mk (Kd.R_below HXR.out b1)
      have HZ1 := Aside0.mk z1
      clear hW1 z1 b1 x1 s1 hzz hsz
      go_wp2_with (fail)
      rw [← HW1.out]
      refine HIF.out.mono ?_
      rintro e w3 ⟨rfl, hb3⟩
      have HB3 := Aside0.mk (HB1.out.trans (hb3.mono HB1.out.size))
      have HX3 := Aside0.mk (hb_block hb3 HX1.out)
      have HR3 := Aside0.mk (Kd.R_below HR1.out hb3)
      have HZ3 := Aside0.mk (show w2.heap.size + 1 ≤ w3.heap.size by have := hb3.size; have := HZ1.out; have := HSZ.out; omega)
      clear hb3 HIF HX1 HR1 HB1 q1 hcx
      obtain ⟨p, hp⟩ : ∃ p, p = colAt S.cols x := ⟨_, rfl⟩
      rw [← hp]
      have HPP := Aside0.mk hp
      clear hp
      by_cases h0p : 0 ≤ p
      · have t0 : decide (0 ≤ p) = true := decide_eq_true h0p
        have H0 := Aside0.mk h0p
        clear h0p
        go_wp2_with (fail)
        refine (must_ok _).mono ?_
        rintro e w4 ⟨rfl, rfl⟩
        have x1 := (blk_cell HX3.out 1).trans rfl
        have hpl : ps.length ≤ 2000000 := by have := readCols_len _ _ _ HP.out; rw [List.length_take] at this; omega
        have HPL := Aside0.mk hpl
        clear hpl t0
        go_wp2_with (at_builtin; refine Kd.R_append (Kd.int .i64) (w0 := w2) (W := w4) w2.heap.size rfl (.tmp 36) (.tmp 38) 38 3 (.int .i64 0) 8 rfl Tryd.underlying38 info3 rfl (by decide) (by decide) _ ps p [.int .i64 p] (fun _ => True) (fun _ => False) rfl rfl rfl (fun _ h => h.elim) (fun _ _ => trivial) HR3.out HB3.out HB3.out.size (by have := HPL.out; omega) ?_; intro v1 w5 hR5 hB5 hg5 _; obtain ⟨A5, n5, hv5, c5, f5, HZ5, HFIN⟩ := int_appended HX3.out HR3.out hR5 hB5 hg5; subst hv5; clear hR5 hB5 hg5 x1)
        go_wp2
        go_roundw
        case rel => exact ⟨i + 1, ps ++ [p], by omega, by go_num, ⟨by
          rw [List.take_succ_eq_append_getElem hlt, readCols_snoc _ _ _ _ HP.out, ← HXI.out, ← HPP.out, if_pos H0.out]⟩, ⟨HFIN.out.1⟩, ⟨HFIN.out.2⟩, ⟨by have := HZ5.out; have := HZ3.out; simp; omega⟩⟩
        case measure => simp [intOf]; omega
      · have t0 : decide (0 ≤ p) = false := decide_eq_false h0p
        have H0 := Aside0.mk h0p
        clear h0p
        go_wp2_with (fail)
        refine (must_no _).mono ?_
        rintro e w4 ⟨rfl, rfl⟩
        go_wp2
        exact ⟨rfl, by
          rw [readCols_bad S.cols ws i hlt (by rw [← HXI.out, ← HPP.out]; have := H0.out; omega)]
          exact StepPost.none (HRR.out.below HB3.out) (Fr.of_below HB3.out HRR.out.2.1)⟩
    · have hie : i = ws.length := by omega
      subst hie
      have hP := HP.out
      rw [List.take_of_length_le (Nat.le_refl _)] at hP
      have HPS := Aside0.mk (show ((readCols S.cols ws).map fun ps => ({ S with idxs := S.idxs ++ [⟨n, ps, u⟩] } : Sch)) = some { S with idxs := S.idxs ++ [⟨n, ps, u⟩] } by rw [hP]; rfl)
      have hRr := HRR.out.below HE.out
      obtain ⟨g0, g1, cv2, iv2, gs, gc, gi⟩ := hRr
      obtain ⟨A2, n2, hiv⟩ := Kd.R_slice gi
      subst hiv
      obtain ⟨A3, n3, hxv⟩ := Kd.R_slice HXR.out
      subst hxv
      have s3 := (blk_cell gs 3).trans rfl
      have f3 := blk_frozen gs 3
      have x0 := (blk_cell HX0.out 0).trans rfl
      have x1 := (blk_cell HX0.out 1).trans rfl
      have x2 := (blk_cell HX0.out 2).trans rfl
      have a3 := (World.cell?_alloc_lt wr (.cells #[.string n, .slice A3 ps.length n3, .bool u] 40) ⟨sb, 3, none⟩ (blk_lt gs)).trans s3
      have GS := Aside0.mk gs
      have GC := Aside0.mk gc
      have GI := Aside0.mk gi
      have G0 := Aside0.mk g0
      have G1 := Aside0.mk g1
      clear hP gs gc gi g0 g1
      go_wp2_with (fail)
      have hinner := Kd.R_apartR (Kd.R_lower HXR.out (show B ≤ w2.heap.size from HRR.out.2.1)) (Kd.R_lower GI.out (Nat.le_refl B)) (by decide)
      have HIN := Aside0.mk hinner
      clear hinner
      go_region_law (refine Kd.R_append_step k40 (w0 := wr) (W := wr.drew) B (by rfl) (.tmp 46) (.tmp 48) 23 40 (.agg #[.string ⟨#[]⟩, .slice none 0 0, .bool false]) 48 (by rfl) Tryd.underlying23 info40 (by rfl) (by decide) (by decide) (.slice A2 S.idxs.length n2) S.idxs ⟨n, ps, u⟩ [.string n, .slice A3 ps.length n3, .bool u] (fun _ => True) (fun k => True ∧ some k ≠ (Value.slice A2 S.idxs.length n2).ownBlock) (by rfl) (by rfl) (k40_mkM _ _ _ _ (Kd.R_drew HIN.out)) (fun _ h => ⟨trivial, h.2⟩) (fun _ _ => trivial) (Kd.R_drew GI.out) (below_drew (Below.refl _ _)) G1.out (by omega) ?_; intro v1 w5 hR5 hB5 hg5 hat5; obtain ⟨A5, n5, hv5, c5, f5, HFIN⟩ := Rep.idx' G0.out G1.out GS.out GC.out GI.out hR5 hg5; subst hv5; clear hR5 hB5 hg5 hat5)
      all_goals (go_wp2; go_end0; rw [HPS.out]; exact StepPost.some HFIN.out.1 ((Fr.of_below HE.out HRR.out.2.1).trans HFIN.out.2))
end Go.Proofs.YtfkbpjeocljflaaDoor
