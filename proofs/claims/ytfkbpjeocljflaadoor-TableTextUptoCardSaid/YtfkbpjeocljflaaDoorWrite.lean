/-
  table.written.
-/
import Derived.Test.YtfkbpjeocljflaaDoorWrite0
namespace Go.Proofs.YtfkbpjeocljflaaDoor
open Go Go.RowKit Go.Lib Go.Proofs.YtfkbpjeocljflaaDoor.PTableText Go.Proofs.YtfkbpjeocljflaaDoorW.PrintWords Go.Proofs.YtfkbpjeocljflaaDoorW.PrintLast Go.Proofs.YtfkbpjeocljflaaDoorW.PrintMore
set_option linter.unusedVariables false
set_option linter.unusedSimpArgs false

theorem colWords_of (s kw : ByteArray) (kn : Nat) (nl : Bool) (h : kw = kindsB.getD kn ByteArray.empty) : wordsL [mkB columnL, s, if nl then kw ++ ⟨#[63]⟩ else kw] = colWords ⟨s, kn, nl⟩ := by
  have hd : kw.data.toList = (kindsB.getD kn ByteArray.empty).data.toList := by rw [h]
  cases nl
  · simp only [wordsL, colWords, kindL, kindT, List.map_cons, List.map_nil, mkB_data, Int.toNat_natCast, Bool.false_eq_true, if_false, List.append_nil, hd]
  · simp only [wordsL, colWords, kindL, kindT, List.map_cons, List.map_nil, mkB_data, Int.toNat_natCast, if_true, data_append, hd]
theorem kw_size {kw : ByteArray} {kn : Nat} (h : kw = kindsB.getD kn ByteArray.empty) : kw.size ≤ 4 := by
  rw [h]
  rcases kn with _ | _ | _ | _ | i
  · exact Nat.zero_le _
  · decide
  · decide
  · decide
  · exact Nat.zero_le _
def idxW (S : Sch) (un : Bool) (s : ByteArray) (l : List Int) (i : Nat) : List ByteArray := (if un then mkB uniqueL else mkB indexL) :: s :: (l.take i).map fun p => (rd_T56 S.cols p).f0
theorem idxW_all (S : Sch) (un : Bool) (s : ByteArray) (l : List Int) : wordsL (idxW S un s l l.length) = idxWords S.cols ⟨s, l, un⟩ := by
  unfold idxW wordsL idxWords
  rw [List.take_of_length_le (Nat.le_refl _)]
  cases un <;> simp [mkB_data, rd_T56, Function.comp_def]
theorem idxW_succ (S : Sch) (un : Bool) (s : ByteArray) (l : List Int) (i : Nat) (h : i < l.length) : idxW S un s l i ++ [(rd_T56 S.cols (rd l i)).f0] = idxW S un s l (i + 1) := by
  unfold idxW
  simp [rd, List.getD_eq_getElem?_getD, List.getElem?_eq_getElem h]
  rw [List.take_succ_eq_append_getElem (by simpa using h), List.getElem_map]
theorem idxW_len (S : Sch) (un : Bool) (s : ByteArray) (l : List Int) (i : Nat) : (idxW S un s l i).length ≤ l.length + 2 := by
  unfold idxW
  simp
  omega
theorem info9 : (Tryd.prog.info? 9).map (fun i => (i.zero, i.size, i.bytes)) = some (some (.string ⟨#[]⟩), 1, 16) := by kernel_rfl
theorem R_lit2 (V : World) (a b : ByteArray) : Kd.string.R 9 (V.alloc (.cells #[.string a, .string b] 9)) V.heap.size (fun _ => True) (.slice (some ⟨V.heap.size, 0, none⟩) 2 2) [a, b] :=
  Kd.R_of_own (World.ownsRow_lit (size := 1) V #[.string a, .string b] 2 (Nat.le_refl _) (by unfold maxLen; omega) rfl) (fun _ _ => trivial)

/-- One line, its words laid in a new row. -/
theorem line_lit {w V : World} {box : Array Value} {l : List UInt8} (ws : List ByteArray) (h0 : 0 < ws.length) (hn : ws.length ≤ 1000) (h : WS w box l V) (hl : (l ++ lineL (wordsL ws)).length ≤ 100000) :
    Calls Tryd.prog 23 #[.slice (some ⟨V.heap.size, 0, none⟩) ws.length ws.length, .pointer (some ⟨w.heap.size + 1, 0, none⟩)] (V.alloc (.cells (ws.map Value.string).toArray 9)) fun e w' => e = .returned (.tuple #[]) ∧ WS w box (l ++ lineL (wordsL ws)) w' := by
  have h1 := h.below (alloc_below V (.cells (ws.map Value.string).toArray 9))
  rw [List.length_append] at hl
  refine (line_calls (w.heap.size + 1) (w.heap.size + 1) l (some ⟨V.heap.size, 0, none⟩) ws.length ws.length ws _ h0 (Nat.le_refl _) (C_lit V ws (by omega)) h1.bu (by have := h1.sz; omega) (by omega)).mono ?_
  rintro e w' ⟨rfl, hu, hb⟩
  exact ⟨rfl, h1.line hu hb⟩

set_option maxHeartbeats 4000000 in
set_option maxRecDepth 100000 in
theorem written_calls (S : Sch) (g : Good S) (A A' : Option Addr) (c c' : Nat) (w : World) (hr : Kd.C k56 w A S.cols.length S.cols) (hx : Kd.C k40 w A' S.idxs.length S.idxs)
    (hk : ∀ i, i < 4 → w.cell? ⟨0, i, none⟩ = some (.string (kindsB.getD i ByteArray.empty))) (htab : Lib.TabIs Tryd.prog w "internal/strconv.uint64pow10" .u64 Lib.pow10Tab) : 
    Calls Tryd.prog 9 #[.agg #[.string S.name, .slice A S.cols.length c, .int .i64 S.key, .slice A' S.idxs.length c']] w fun e w' => e = .returned (.string S.text) ∧ Below w.heap.size w w' := by
  have HR := Aside0.mk hr
  have HX := Aside0.mk hx
  have HK := Aside0.mk hk
  have HT := Aside0.mk (Lib.tabBelow_of_tabIs htab)
  have G := Aside0.mk g
  clear hr hx hk htab g
  have hmf : ∀ (fn : Fn) (first cap : Array Value) (w : World), (Instr.makeFunc fn first cap).run Tryd.prog w = .ok (.func fn first cap) w := fun _ _ _ _ => rfl
  obtain ⟨W0, hW0⟩ : ∃ W0, W0 = (w.alloc (.cells #[.string S.name, .slice A S.cols.length c, .int .i64 S.key, .slice A' S.idxs.length c'] 25)).alloc (.cells #[.pointer none, .slice none 0 0] 62) := ⟨_, rfl⟩
  have z0 : W0.heap.size = w.heap.size + 2 := by rw [hW0]; simp
  have S0 : WS w #[.string S.name, .slice A S.cols.length c, .int .i64 S.key, .slice A' S.idxs.length c'] [] W0 := by
    rw [hW0]
    refine ⟨(Below.heap_alloc _ _ _ (by simp)).trans (World.alloc_heap_new w _), .inl ⟨Nat.le_refl _, .slice none 0 0, ?_, World.ownsRowF_nil _ _ _ _, by simp [Value.ownBlock]⟩, ((Below.refl _ _).alloc (Nat.le_refl _) _).alloc (by simp) _, by simp⟩
    have := World.alloc_heap_new (w.alloc (.cells #[.string S.name, .slice A S.cols.length c, .int .i64 S.key, .slice A' S.idxs.length c'] 25)) (.cells #[.pointer none, .slice none 0 0] 62)
    rw [World.size_alloc] at this
    exact this
  have C0 := C_lit W0 [mkB tableL, S.name] (by simp)
  rw [z0] at C0
  have L0 := line_calls (w.heap.size + 1) (w.heap.size + 1) [] (some ⟨w.heap.size + 1 + 1, 0, none⟩) 2 2 [mkB tableL, S.name] _ (by omega) (Nat.le_refl _) C0 (isBuilderF_below S0.bu (alloc_below _ _)) (by simp; omega) (by have := T1_le G.out 0; simp [T1] at this; simp [wordsL, mkB_data]; omega)
  rw [hW0] at L0 S0
  have S1 := Aside0.mk (S0.below (alloc_below _ (.cells #[.string ⟨#[116, 97, 98, 108, 101]⟩, .string S.name] 9)))
  have LL0 := Aside0.mk L0
  clear L0 S0 C0 hW0 z0
  go_enter Tryd.func9, Tryd.ntmps9
  go_wp2_with (fail)
  refine LL0.out.mono ?_
  rintro e w1 ⟨rfl, hu1, hb1⟩
  have S2 := Aside0.mk (S1.out.line hu1 hb1)
  have s1 := (blk_cell S2.out.bx 1).trans rfl
  clear S1 LL0 hu1 hb1
  go_wp2_with (fail)
  clear hmf s1
  have hmaxc : S.cols.length ≤ 9223372036854775807 := Kd.C_max HR.out
  go_loopw [22] (fun v wr => ∃ k : Nat, k ≤ S.cols.length ∧ v = .int .i64 k ∧ Aside0 (WS w #[.string S.name, .slice A S.cols.length c, .int .i64 S.key, .slice A' S.idxs.length c'] (T1 S k) wr)) (fun v _ => S.cols.length - (intOf v).toNat)
  case atStart =>
    refine ⟨0, Nat.zero_le _, rfl, ⟨?_⟩⟩
    have : T1 S 0 = [] ++ lineL (wordsL [mkB tableL, S.name]) := by simp [T1, wordsL, mkB_data]
    rw [this]
    exact S2.out
  case round =>
    obtain ⟨k, hk, rfl, HS⟩ := hrel
    by_cases hlt : k < S.cols.length
    · obtain ⟨ad, hA, hc0, hc1, hc2⟩ := at_T56 (Kd.C_below HR.out HS.out.be) (k : Int) (by omega) (by omega)
      subst hA
      simp only [Int.toNat_natCast] at hc0 hc1 hc2
      have hkd : 1 ≤ (rd_T56 S.cols (k : Int)).f1 ∧ (rd_T56 S.cols (k : Int)).f1 ≤ 3 := G.out.colKind k hlt
      have hT := T1_succ S k hlt
      have hTl := T1_le G.out (k + 1)
      obtain ⟨x, hxx⟩ : ∃ x, x = rd_T56 S.cols (k : Int) := ⟨_, rfl⟩
      rw [← hxx] at hc0 hc1 hc2 hkd hT
      obtain ⟨s, kd, nl⟩ := x
      simp only at hc0 hc1 hc2 hkd
      obtain ⟨kn, rfl⟩ : ∃ kn : Nat, kd = kn := ⟨kd.toNat, by omega⟩
      have hkn : 0 ≤ (kn : Int) ∧ (kn : Int) < 4 := by omega
      have hk0 := HK.out kn (by omega)
      have hlt0 : 0 < w.heap.size := World.block_lt_of_cell? _ _ hk0
      obtain ⟨kw, hkw⟩ : ∃ kw, kw = kindsB.getD kn ByteArray.empty := ⟨_, rfl⟩
      rw [← hkw] at hk0
      have hk1 : (wr.alloc (.cells #[.string s, .int .i64 kn, .bool nl] 56)).cell? ⟨0, kn, none⟩ = some (.string kw) := (World.cell?_alloc_lt _ _ _ (by have := HS.out.sz; show 0 < _; omega)).trans ((HS.out.be.cell (p := ⟨0, kn, none⟩) hlt0).trans hk0)
      have HKW := Aside0.mk hkw
      have HXX := Aside0.mk hxx
      have HTT := Aside0.mk hT
      have HTL := Aside0.mk hTl
      have HKD := Aside0.mk hkd
      clear hkw hxx hT hTl hk0 hkd
      have hks := kw_size HKW.out
      have hS1 := HS.out.below (alloc_below wr (.cells #[.string s, .int .i64 kn, .bool nl] 56))
      have L := line_lit [mkB columnL, s, if nl then kw ++ ⟨#[63]⟩ else kw] (by simp) (by simp) hS1 (by rw [colWords_of s kw kn nl HKW.out, ← HTT.out]; have := HTL.out; omega)
      rw [colWords_of s kw kn nl HKW.out, ← HTT.out, World.size_alloc] at L
      have LL := Aside0.mk L
      clear L hS1
      cases nl with
      | false =>
        go_wp2_with (fail)
        refine LL.out.mono ?_
        rintro e w5 ⟨rfl, hS5⟩
        have HS5 := Aside0.mk hS5
        clear hS5 LL hc0 hc1 hc2 hk1 HS
        go_wp2
        go_roundw
        case rel => exact ⟨k + 1, by omega, by go_num, HS5⟩
        case measure => simp [intOf]; omega
      | true =>
        go_wp2_with (fail)
        refine LL.out.mono ?_
        rintro e w5 ⟨rfl, hS5⟩
        have HS5 := Aside0.mk hS5
        clear hS5 LL hc0 hc1 hc2 hk1 HS
        go_wp2
        go_roundw
        case rel => exact ⟨k + 1, by omega, by go_num, HS5⟩
        case measure => simp [intOf]; omega
    · have hke : k = S.cols.length := by omega
      subst hke
      have s2 := (blk_cell HS.out.bx 2).trans rfl
      have LI := Tryd.strconv_Itoa S.key (by have := G.out.key.1; omega) (by have := G.out.key.2; have := G.out.colMany.2; omega) wr (HT.out wr HS.out.be)
      have HLI := Aside0.mk LI
      clear LI
      go_wp2_with (fail)
      refine HLI.out.mono ?_
      rintro e w6 ⟨rfl, kq, os, hw6⟩
      have hb6 : Below wr.heap.size wr w6 := by rw [hw6]; exact Lib.below_grow _ _ (Nat.le_refl _) _ _
      have HS6 := Aside0.mk (HS.out.below hb6)
      have HLK := line_lit [mkB keyL, ⟨(Lib.itoa S.key).toArray⟩] (by simp) (by simp) HS6.out (by have := T2_le G.out; unfold T2 at this; exact Nat.le_trans this (by omega))
      have LL := Aside0.mk HLK
      clear HLK hw6 hb6 s2 HLI HS
      go_wp2_with (fail)
      refine LL.out.mono ?_
      rintro e w7 ⟨rfl, hS7⟩
      have HS7 := Aside0.mk (show WS w _ (T2 S) w7 from hS7)
      have s3 := (blk_cell HS7.out.bx 3).trans rfl
      clear hS7 LL HS6
      go_wp2_with (fail)
      clear s3
      have hmaxi : S.idxs.length ≤ 9223372036854775807 := Kd.C_max HX.out
      go_loopw [50] (fun v wr => ∃ k : Nat, k ≤ S.idxs.length ∧ v = .int .i64 k ∧ Aside0 (WS w #[.string S.name, .slice A S.cols.length c, .int .i64 S.key, .slice A' S.idxs.length c'] (T3 S k) wr)) (fun v _ => S.idxs.length - (intOf v).toNat)
      case atStart =>
        refine ⟨0, Nat.zero_le _, rfl, ⟨?_⟩⟩
        have : T3 S 0 = T2 S := by simp [T3]
        rw [this]
        exact HS7.out
      case round =>
        obtain ⟨k, hk2, rfl, HS⟩ := hrel
        clear HS7
        by_cases hlt2 : k < S.idxs.length
        · obtain ⟨ad, L, cL, hA, hc0, hc1, hc2, hcl, hL⟩ := at_T40 (Kd.C_below HX.out HS.out.be) (k : Int) (by omega) (by omega)
          subst hA
          simp only [Int.toNat_natCast] at hc0 hc1 hc2
          have hT := T3_succ S k hlt2
          have hTl := T3_le G.out (k + 1)
          have hmem : rd_T40 S.idxs (k : Int) ∈ S.idxs := getD_mem (by simpa using hlt2)
          have hIC := G.out.idxCols _ hmem
          obtain ⟨x, hxx⟩ : ∃ x, x = rd_T40 S.idxs (k : Int) := ⟨_, rfl⟩
          rw [← hxx] at hc0 hc1 hc2 hcl hL hT hIC
          obtain ⟨s, l, un⟩ := x
          simp only at hc0 hc1 hc2 hcl hL hIC
          have hll : l.length ≤ 8 := hIC.2.1
          obtain ⟨V, hV⟩ : ∃ V, V = wr.alloc (.cells #[.string s, .slice L l.length cL, .bool un] 40) := ⟨_, rfl⟩
          have vz : V.heap.size = wr.heap.size + 1 := by rw [hV]; simp
          have hbV : Below wr.heap.size wr V := by rw [hV]; exact alloc_below _ _
          have xV : V.heap[wr.heap.size]? = some (.cells #[.string s, .slice L l.length cL, .bool un] 40 (0, 0)) := by rw [hV]; exact heap_alloc_new _ _
          have HXV := Aside0.mk xV
          have HIC := Aside0.mk hIC
          have HTT := Aside0.mk hT
          have HTL := Aside0.mk hTl
          have HSV := Aside0.mk (HS.out.below hbV)
          have HLV := Aside0.mk (Kd.C_below hL hbV)
          have HV := Aside0.mk hV
          have VZ := Aside0.mk vz
          have RL := Aside0.mk (R_lit2 V (if un then mkB uniqueL else mkB indexL) s)
          have x2 : (V.alloc (.cells #[.string (if un then mkB uniqueL else mkB indexL), .string s] 9)).cell? ⟨wr.heap.size, 1, none⟩ = some (.slice L l.length cL) := (World.cell?_alloc_lt _ _ _ (by show wr.heap.size < _; omega)).trans ((blk_cell xV 1).trans rfl)
          have X2 := Aside0.mk x2
          clear hxx hT hTl hIC hL hcl hmem hV vz hbV xV x2
          obtain ⟨i9, hi9, hz0, hz1, hz2⟩ := info_parts info9
          cases un with
          | false =>
            have x2 := X2.out
            have rl := RL.out
            simp only [Bool.false_eq_true, if_false] at x2 rl
            rw [HV.out] at x2
            clear X2 RL
            have RL := Aside0.mk rl
            clear rl
            go_wp2_with (fail)
            clear hc0 hc1 hc2
            obtain ⟨wo, rfl⟩ : ∃ wo : World, wo = wr := ⟨_, rfl⟩
            go_loopw [10, 64] (fun v10 v64 wi => ∃ i : Nat, i ≤ l.length ∧ v64 = .int .i64 i ∧ Aside0 (Kd.string.R 9 wi V.heap.size (fun _ => True) v10 (idxW S false s l i)) ∧ Aside0 (Below V.heap.size V wi)) (fun _ v64 _ => l.length - (intOf v64).toNat)
            case atStart =>
              refine ⟨0, Nat.zero_le _, rfl, ⟨?_⟩, ⟨?_⟩⟩
              · have h0 : idxW S false s l 0 = [mkB indexL, s] := by simp [idxW]
                rw [h0]
                have := RL.out
                rw [VZ.out]
                rw [VZ.out, HV.out] at this
                exact this
              · rw [HV.out]; exact alloc_below _ _
            case round =>
              obtain ⟨i, hi, rfl, HRR, HBB⟩ := hrel
              have HSI := Aside0.mk (HSV.out.below HBB.out)
              by_cases hil : i < l.length
              · obtain ⟨al, hL', hci⟩ := Kd.at_int (Kd.C_below HLV.out HBB.out) (i : Int) (by omega) (by omega)
                subst hL'
                simp only [Int.toNat_natCast] at hci
                have hpm : rd l (i : Int) ∈ l := getD_mem (by simpa using hil)
                have hpb := HIC.out.2.2 _ hpm
                have hWS := idxW_succ S false s l i hil
                obtain ⟨p, hp⟩ : ∃ p, p = rd l (i : Int) := ⟨_, rfl⟩
                rw [← hp] at hci hpb hWS
                obtain ⟨pn, rfl⟩ : ∃ pn : Nat, p = pn := ⟨p.toNat, by omega⟩
                have hpn : (pn : Int) < S.cols.length := hpb.2
                obtain ⟨ac, hA2, hd0, hd1, hd2⟩ := at_T56 (Kd.C_below HR.out HSI.out.be) (pn : Int) (by omega) hpn
                subst hA2
                simp only [Int.toNat_natCast] at hd0
                have hs1 := (blk_cell HSI.out.bx 1).trans rfl
                have HWS := Aside0.mk hWS
                obtain ⟨nmv, hnmv⟩ : ∃ nmv, nmv = (rd_T56 S.cols (pn : Int)).f0 := ⟨_, rfl⟩
                rw [← hnmv] at hd0
                have HNM := Aside0.mk hnmv
                clear hp hpm hpb hWS hd1 hd2 hnmv
                have HIL := idxW_len S false s l i
                have HILL := Aside0.mk (show (idxW S false s l i).length ≤ 10 by omega)
                clear HIL
                go_wp2_with (at_builtin; refine Kd.R_append Kd.string (w0 := V) (W := wr) V.heap.size rfl (.tmp 68) (.tmp 75) 48 9 (.string ⟨#[]⟩) 16 rfl Tryd.underlying48 info9 rfl (by decide) (by decide) _ (idxW S false s l i) nmv [.string nmv] (fun _ => True) (fun _ => False) rfl rfl rfl (fun _ h => h.elim) (fun _ _ => trivial) HRR.out HBB.out HBB.out.size (by have := HILL.out; omega) ?_; intro v1 w8 hR1 hB1 _ _)
                have HR1 := Aside0.mk hR1
                have HB1 := Aside0.mk hB1
                clear hR1 hB1 hs1 hci hd0
                go_wp2
                go_roundw
                case rel => exact ⟨i + 1, by omega, by go_num, ⟨by rw [← HWS.out, ← HNM.out]; exact HR1.out⟩, HB1⟩
                case measure => simp [intOf]; omega
              · have hie : i = l.length := by omega
                subst hie
                obtain ⟨A10, c10, hv, hlc, hC10⟩ := Kd.R_reads HRR.out
                subst hv
                have hlen0 : 0 < (idxW S false s l l.length).length := by unfold idxW; simp
                have LN := line_calls (w.heap.size + 1) (w.heap.size + 1) (T3 S k) A10 (idxW S false s l l.length).length c10 (idxW S false s l l.length) _ hlen0 hlc hC10 HSI.out.bu (by have := HSI.out.sz; omega) (by rw [idxW_all, ← List.length_append, ← HTT.out]; have := HTL.out; omega)
                rw [idxW_all, ← HTT.out] at LN
                have HLN := Aside0.mk LN
                clear LN hlc hC10 hlen0
                go_wp2_with (fail)
                refine HLN.out.mono ?_
                rintro e w9 ⟨rfl, hu9, hb9⟩
                have HS9 := Aside0.mk (HSI.out.line hu9 hb9)
                clear hu9 hb9 HLN HSI HSV HS HRR HBB
                go_wp2
                go_roundw
                case rel => exact ⟨k + 1, by omega, by go_num, HS9⟩
                case measure => simp [intOf]; omega
          | true =>
            have x2 := X2.out
            have rl := RL.out
            simp only [if_true] at x2 rl
            rw [HV.out] at x2
            clear X2 RL
            have RL := Aside0.mk rl
            clear rl
            go_wp2_with (fail)
            clear hc0 hc1 hc2
            obtain ⟨wo, rfl⟩ : ∃ wo : World, wo = wr := ⟨_, rfl⟩
            go_loopw [10, 64] (fun v10 v64 wi => ∃ i : Nat, i ≤ l.length ∧ v64 = .int .i64 i ∧ Aside0 (Kd.string.R 9 wi V.heap.size (fun _ => True) v10 (idxW S true s l i)) ∧ Aside0 (Below V.heap.size V wi)) (fun _ v64 _ => l.length - (intOf v64).toNat)
            case atStart =>
              refine ⟨0, Nat.zero_le _, rfl, ⟨?_⟩, ⟨?_⟩⟩
              · have h0 : idxW S true s l 0 = [mkB uniqueL, s] := by simp [idxW]
                rw [h0]
                have := RL.out
                rw [VZ.out]
                rw [VZ.out, HV.out] at this
                exact this
              · rw [HV.out]; exact alloc_below _ _
            case round =>
              obtain ⟨i, hi, rfl, HRR, HBB⟩ := hrel
              have HSI := Aside0.mk (HSV.out.below HBB.out)
              by_cases hil : i < l.length
              · obtain ⟨al, hL', hci⟩ := Kd.at_int (Kd.C_below HLV.out HBB.out) (i : Int) (by omega) (by omega)
                subst hL'
                simp only [Int.toNat_natCast] at hci
                have hpm : rd l (i : Int) ∈ l := getD_mem (by simpa using hil)
                have hpb := HIC.out.2.2 _ hpm
                have hWS := idxW_succ S true s l i hil
                obtain ⟨p, hp⟩ : ∃ p, p = rd l (i : Int) := ⟨_, rfl⟩
                rw [← hp] at hci hpb hWS
                obtain ⟨pn, rfl⟩ : ∃ pn : Nat, p = pn := ⟨p.toNat, by omega⟩
                have hpn : (pn : Int) < S.cols.length := hpb.2
                obtain ⟨ac, hA2, hd0, hd1, hd2⟩ := at_T56 (Kd.C_below HR.out HSI.out.be) (pn : Int) (by omega) hpn
                subst hA2
                simp only [Int.toNat_natCast] at hd0
                have hs1 := (blk_cell HSI.out.bx 1).trans rfl
                have HWS := Aside0.mk hWS
                obtain ⟨nmv, hnmv⟩ : ∃ nmv, nmv = (rd_T56 S.cols (pn : Int)).f0 := ⟨_, rfl⟩
                rw [← hnmv] at hd0
                have HNM := Aside0.mk hnmv
                clear hp hpm hpb hWS hd1 hd2 hnmv
                have HIL := idxW_len S true s l i
                have HILL := Aside0.mk (show (idxW S true s l i).length ≤ 10 by omega)
                clear HIL
                go_wp2_with (at_builtin; refine Kd.R_append Kd.string (w0 := V) (W := wr) V.heap.size rfl (.tmp 68) (.tmp 75) 48 9 (.string ⟨#[]⟩) 16 rfl Tryd.underlying48 info9 rfl (by decide) (by decide) _ (idxW S true s l i) nmv [.string nmv] (fun _ => True) (fun _ => False) rfl rfl rfl (fun _ h => h.elim) (fun _ _ => trivial) HRR.out HBB.out HBB.out.size (by have := HILL.out; omega) ?_; intro v1 w8 hR1 hB1 _ _)
                have HR1 := Aside0.mk hR1
                have HB1 := Aside0.mk hB1
                clear hR1 hB1 hs1 hci hd0
                go_wp2
                go_roundw
                case rel => exact ⟨i + 1, by omega, by go_num, ⟨by rw [← HWS.out, ← HNM.out]; exact HR1.out⟩, HB1⟩
                case measure => simp [intOf]; omega
              · have hie : i = l.length := by omega
                subst hie
                obtain ⟨A10, c10, hv, hlc, hC10⟩ := Kd.R_reads HRR.out
                subst hv
                have hlen0 : 0 < (idxW S true s l l.length).length := by unfold idxW; simp
                have LN := line_calls (w.heap.size + 1) (w.heap.size + 1) (T3 S k) A10 (idxW S true s l l.length).length c10 (idxW S true s l l.length) _ hlen0 hlc hC10 HSI.out.bu (by have := HSI.out.sz; omega) (by rw [idxW_all, ← List.length_append, ← HTT.out]; have := HTL.out; omega)
                rw [idxW_all, ← HTT.out] at LN
                have HLN := Aside0.mk LN
                clear LN hlc hC10 hlen0
                go_wp2_with (fail)
                refine HLN.out.mono ?_
                rintro e w9 ⟨rfl, hu9, hb9⟩
                have HS9 := Aside0.mk (HSI.out.line hu9 hb9)
                clear hu9 hb9 HLN HSI HSV HS HRR HBB
                go_wp2
                go_roundw
                case rel => exact ⟨k + 1, by omega, by go_num, HS9⟩
                case measure => simp [intOf]; omega
        · have hke2 : k = S.idxs.length := by omega
          subst hke2
          have LS := Tryd.Builder_String_any_k (w.heap.size + 1) (w.heap.size + 1) (T3 S S.idxs.length) wr HS.out.bu (by have := HS.out.sz; omega)
          rw [T3_all] at LS
          have HLS := Aside0.mk LS
          clear LS
          go_wp2_with (fail)
          refine HLS.out.mono ?_
          rintro e w9 ⟨rfl, _, hb9, _⟩
          have HB9 := Aside0.mk (HS.out.be.trans (hb9.mono (by omega)))
          clear hb9 HLS
          go_wp2
          go_ret
          exact ⟨rfl, HB9.out⟩
end Go.Proofs.YtfkbpjeocljflaaDoor

/-
  table.Text.
-/
namespace Go.Proofs.YtfkbpjeocljflaaDoor
open Go Go.RowKit Go.Lib Go.Proofs.YtfkbpjeocljflaaDoor.PTableText Go.Proofs.YtfkbpjeocljflaaDoorW.PrintWords Go.Proofs.YtfkbpjeocljflaaDoorW.PrintLast Go.Proofs.YtfkbpjeocljflaaDoorW.PrintMore
set_option linter.unusedVariables false
set_option linter.unusedSimpArgs false

/-- The kinds' words; the powers of ten. -/
structure Laid (w : World) : Prop where
  kinds : ∀ i, i < 4 → w.cell? ⟨0, i, none⟩ = some (.string (kindsB.getD i ByteArray.empty))
  tab : Lib.TabIs Tryd.prog w "internal/strconv.uint64pow10" .u64 Lib.pow10Tab
theorem Laid.below {w w1 : World} (h : Laid w) (hb : Below w.heap.size w w1) : Laid w1 :=
  ⟨fun i hi => pw_cell_below hb (h.kinds i hi), Lib.tabBelow_of_tabIs h.tab w1 hb⟩

def textRes (S : Sch) : Value := .tuple (if S.ok then #[.string S.text, .int .i64 0] else #[.string ⟨#[]⟩, .int .i64 260])
set_option maxRecDepth 100000 in
theorem text_calls (S : Sch) (A A' : Option Addr) (c c' : Nat) (w : World) (hr : Kd.C k56 w A S.cols.length S.cols) (hx : Kd.C k40 w A' S.idxs.length S.idxs) (hL : Laid w) :
    Calls Tryd.prog 4 #[.agg #[.string S.name, .slice A S.cols.length c, .int .i64 S.key, .slice A' S.idxs.length c']] w fun e w' => e = .returned (textRes S) ∧ Below w.heap.size w w' := by
  obtain ⟨W0, hW0⟩ : ∃ W0, W0 = w.alloc (.cells #[.string S.name, .slice A S.cols.length c, .int .i64 S.key, .slice A' S.idxs.length c'] 25) := ⟨_, rfl⟩
  have b0 : W0.heap[w.heap.size]? = some (.cells #[.string S.name, .slice A S.cols.length c, .int .i64 S.key, .slice A' S.idxs.length c'] 25 (0, 0)) := by rw [hW0]; exact World.alloc_heap_new w _
  have e0 : Below w.heap.size w W0 := by rw [hW0]; exact (Below.refl _ _).alloc (Nat.le_refl _) _
  have z0 : W0.heap.size = w.heap.size + 1 := by rw [hW0]; simp
  have HW0 := Aside0.mk hW0
  have B0 := Aside0.mk b0
  have E0 := Aside0.mk e0
  have Z0 := Aside0.mk z0
  have HV := Aside0.mk (valid_calls S.name S.cols S.key S.idxs A A' c c' W0 (Kd.C_below hr e0) (Kd.C_below hx e0))
  have HR := Aside0.mk hr
  have HX := Aside0.mk hx
  have HL := Aside0.mk hL
  obtain ⟨q, hq⟩ : ∃ q, q = S.ok := ⟨_, rfl⟩
  have HQ := Aside0.mk hq
  clear hW0 b0 e0 z0 hr hx hL hq
  go_enter Tryd.func4, Tryd.ntmps4
  go_wp2_with (fail)
  rw [← HW0.out]
  refine HV.out.mono ?_
  rintro e w1 ⟨rfl, hb1⟩
  have b1 := (hb1.block _ (by have := Z0.out; omega)).trans B0.out
  have e1 := E0.out.trans (hb1.mono E0.out.size)
  have c0 := (blk_cell b1 0).trans rfl
  have c1 := (blk_cell b1 1).trans rfl
  have c2 := (blk_cell b1 2).trans rfl
  have c3 := (blk_cell b1 3).trans rfl
  have E1 := Aside0.mk e1
  have hok : Sch.ok ⟨S.name, S.cols, S.key, S.idxs⟩ = q := HQ.out.symm
  rw [hok]
  clear hb1 b1 e1 hok HV
  cases q with
  | false =>
    go_wp2
    go_ret2
    exact ⟨by unfold textRes; rw [← HQ.out]; rfl, E1.out⟩
  | true =>
    have HWr := Aside0.mk (written_calls S (good_of_ok HQ.out.symm) A A' c c' w1 (Kd.C_below HR.out E1.out) (Kd.C_below HX.out E1.out) (HL.out.below E1.out).kinds (HL.out.below E1.out).tab)
    go_wp2_with (fail)
    refine HWr.out.mono ?_
    rintro e w2 ⟨rfl, hb2⟩
    have E2 := Aside0.mk (E1.out.trans (hb2.mono E1.out.size))
    clear HWr hb2
    go_wp2
    go_ret2
    exact ⟨by unfold textRes; rw [← HQ.out]; rfl, E2.out⟩
end Go.Proofs.YtfkbpjeocljflaaDoor
