/-
  table.written: what has been written so far; its closure 'line'.
-/
import Derived.Test.YtfkbpjeocljflaaDoorValidAll
import Derived.Shelf.Strings.BuilderK
import Derived.Lib.AppendIntMem
namespace Go.Proofs
open Go Go.RowKit Go.Lib
theorem Tryd.Builder_WriteString_k (B b : Nat) (bs : List Value) (s : ByteArray) (w : World) (h : Lib.IsBuilderF 62 5 B b bs w) (hlen : bs.length + s.size ≤ 140737488355328) (hBw : B ≤ w.heap.size) :
    Calls Tryd.prog 24 #[.pointer (some ⟨b, 0, none⟩), .string s] w fun e w' => e = .returned (.tuple #[.int .i64 s.size, .nilIface]) ∧ (Lib.BuilderAtF 62 5 B b (.pointer (some ⟨b, 0, none⟩)) (bs ++ Lib.strCells s) w' ∧ Below B w w' ∧ Lib.OthersKept 5 (some b) w w') :=
  Any.Builder_WriteString_k { Tryd.lays156 with } Tryd.Builder_Extra_156 B b bs s w h hlen hBw
end Go.Proofs
namespace Go.Proofs.YtfkbpjeocljflaaDoor
open Go Go.RowKit Go.Lib Go.Proofs.YtfkbpjeocljflaaDoor.PTableText Go.Proofs.YtfkbpjeocljflaaDoorW.PrintWords Go.Proofs.YtfkbpjeocljflaaDoorW.PrintLast Go.Proofs.YtfkbpjeocljflaaDoorW.PrintMore
set_option linter.unusedVariables false
set_option linter.unusedSimpArgs false

theorem isBuilderF_below {B b : Nat} {bs : List Value} {w w1 : World} (h : Lib.IsBuilderF 62 5 B b bs w) (hb : Below w.heap.size w w1) : Lib.IsBuilderF 62 5 B b bs w1 := by
  have go : ∀ p, Lib.BuilderAtF 62 5 B b p bs w → Lib.BuilderAtF 62 5 B b p bs w1 := by
    rintro p ⟨hB, v, hk, hown, hne⟩
    refine ⟨hB, v, (hb.block _ (blk_lt hk)).trans hk, ?_, hne⟩
    exact hown.kept (grown_of_below hb none) (by cases v.ownBlock <;> simp)
  exact h.elim (fun x => .inl (go _ x)) (fun x => .inr (go _ x))

def wordsL (ws : List ByteArray) : List (List UInt8) := ws.map (·.data.toList)
theorem strCells_eq (s : ByteArray) : Lib.strCells s = Lib.byteCells s.data.toList := rfl

theorem join_ge : ∀ (xs : List (List UInt8)) (sep : List UInt8), xs.length * sep.length ≤ (Lib.join xs sep).length + sep.length
  | [], sep => by simp
  | x :: r, sep => by
    rw [Lib.join_cons]
    have : ∀ r : List (List UInt8), r.length * sep.length ≤ (Lib.joinTail sep r).length := fun r => by
      induction r with
      | nil => simp
      | cons y r ih =>
        simp only [Lib.joinTail, List.map_cons, List.flatten_cons, List.length_append, List.length_cons, Nat.succ_mul] at ih ⊢
        omega
    have h := this r
    simp only [List.length_append, List.length_cons, Nat.succ_mul]
    omega
theorem byteCells_append (a b : List UInt8) : Lib.byteCells (a ++ b) = Lib.byteCells a ++ Lib.byteCells b := by simp [Lib.byteCells]
theorem data_append (a b : ByteArray) : (a ++ b).data.toList = a.data.toList ++ b.data.toList := by
  rw [ByteArray.data_append, Array.toList_append]
theorem strings_at {w : World} {A : Option Addr} {n : Nat} {ws : List ByteArray} (hC : Kd.string.C w A n ws) (h0 : 0 < n) : ∃ b o, A = some ⟨b, o, none⟩ ∧ b < w.heap.size ∧ ∀ (j : Nat) x, ws[j]? = some x → w.cell? ⟨b, o + j, none⟩ = some (.string x) := by
  obtain ⟨ad, rfl, hc⟩ := Kd.at_string hC 0 (by omega) (by omega)
  have hs := spot_none hc
  have hs' : ad.spot = none := by simpa [Addr.add] using hs
  have hlt := World.block_lt_of_cell? _ _ hc
  obtain ⟨b, o, sp⟩ := ad
  simp only at hs'
  subst hs'
  refine ⟨b, o, rfl, by simpa [Addr.add] using hlt, fun j x hj => ?_⟩
  have hjl := (List.getElem?_eq_some_iff.1 hj).1
  obtain ⟨ad, e, hc⟩ := Kd.at_string hC (j : Int) (by omega) (by have := Kd.C_len hC; omega)
  injection e with e
  subst e
  rw [Int.toNat_natCast, add_at] at hc
  rw [hc]
  simp [rdOf, List.getD_eq_getElem?_getD, hj]

set_option maxHeartbeats 1000000 in
set_option maxRecDepth 100000 in
theorem line_calls (B b : Nat) (l : List UInt8) (A : Option Addr) (n c : Nat) (ws : List ByteArray) (w : World) (h0 : 0 < n) (hc : n ≤ c) (hC : Kd.string.C w A n ws) (h : Lib.IsBuilderF 62 5 B b (Lib.byteCells l) w) (hB : B ≤ w.heap.size)
    (hl : l.length + (lineL (wordsL ws)).length ≤ 1000000) :
    Calls Tryd.prog 23 #[.slice A n c, .pointer (some ⟨b, 0, none⟩)] w fun e w' => e = .returned (.tuple #[]) ∧ Lib.IsBuilderF 62 5 B b (Lib.byteCells (l ++ lineL (wordsL ws))) w' ∧ Below B w w' := by
  have hn : ws.length = n := Kd.C_len hC
  subst hn
  obtain ⟨bk, o, rfl, hbk, hcells⟩ := strings_at hC h0
  have hjl : (lineL (wordsL ws)).length = (Lib.join (wordsL ws) [32]).length + 1 := by unfold lineL; simp
  obtain ⟨s, hs⟩ : ∃ s, s = mkB (Lib.join (wordsL ws) [32]) := ⟨_, rfl⟩
  have hsz : s.size = (Lib.join (wordsL ws) [32]).length := by rw [hs, mkB_size]
  have hwl : (wordsL ws).length = ws.length := by unfold wordsL; simp
  have hjg := join_ge (wordsL ws) [32]
  simp only [List.length_singleton] at hjg
  have hj := Tryd.strings_Join bk o c ws (mkB [32]) w hcells hbk (by omega) hc (by show (Lib.join (wordsL ws) [32]).length ≤ _; omega)
  have hj' : Calls Tryd.prog 25 #[.slice (some ⟨bk, o, none⟩) ws.length c, .string (mkB [32])] w fun e w' => e = .returned (.string s) ∧ Below w.heap.size w w' := by rw [hs]; exact hj
  have hadd : s.size ≤ 1000000 := by omega
  have hws : ∀ W : World, Lib.IsBuilderF 62 5 B b (Lib.byteCells l) W → B ≤ W.heap.size → Calls Tryd.prog 24 #[.pointer (some ⟨b, 0, none⟩), .string (s ++ ⟨#[10]⟩)] W fun e w' => e = .returned (.tuple #[.int .i64 (s ++ ⟨#[10]⟩ : ByteArray).size, .nilIface]) ∧ Lib.IsBuilderF 62 5 B b (Lib.byteCells (l ++ lineL (wordsL ws))) w' ∧ Below B W w' := fun W hW hBW => by
    have hlen : (Lib.byteCells l).length + (s ++ ⟨#[10]⟩ : ByteArray).size ≤ 140737488355328 := by
      rw [Lib.byteCells_length, size_eq, data_append, List.length_append, ← size_eq]
      have : (⟨#[10]⟩ : ByteArray).data.toList.length = 1 := rfl
      omega
    have hh := Tryd.Builder_WriteString_k B b (Lib.byteCells l) (s ++ ⟨#[10]⟩) W hW hlen hBW
    refine hh.mono ?_
    rintro e w' ⟨rfl, h1, h2, _⟩
    refine ⟨rfl, .inr ?_, h2⟩
    rw [strCells_eq, ← byteCells_append, data_append, hs] at h1
    exact h1
  have HH := Aside0.mk h
  have HJ := Aside0.mk hj'
  have HW := Aside0.mk hws
  clear hj hj' hws h hcells hC hs hsz hjl hl hwl hjg
  go_enter Tryd.func23, Tryd.ntmps23
  go_wp2_with (fail)
  refine HJ.out.mono ?_
  rintro e w1 ⟨rfl, hb1⟩
  go_wp2_with (fail)
  refine (HW.out w1 (isBuilderF_below HH.out hb1) (by have := hb1.size; omega)).mono ?_
  rintro e w2 ⟨rfl, h2, hb2⟩
  go_wp2
  go_end0
  exact ⟨rfl, h2, (hb1.mono hB).trans hb2⟩
/-! ### What has been written so far -/
def T1 (S : Sch) (k : Nat) : List UInt8 := lineL [tableL, S.name.data.toList] ++ ((S.cols.take k).map fun c => lineL (colWords c)).flatten
def T2 (S : Sch) : List UInt8 := T1 S S.cols.length ++ lineL [keyL, itoa S.key]
def T3 (S : Sch) (k : Nat) : List UInt8 := T2 S ++ ((S.idxs.take k).map fun x => lineL (idxWords S.cols x)).flatten
theorem T1_succ (S : Sch) (k : Nat) (h : k < S.cols.length) : T1 S (k + 1) = T1 S k ++ lineL (colWords (rd_T56 S.cols k)) := by
  unfold T1 rd_T56
  rw [List.take_succ_eq_append_getElem h, List.map_append, List.flatten_append, List.getD_eq_getElem?_getD]
  simp [List.getElem?_eq_getElem h]
theorem T3_succ (S : Sch) (k : Nat) (h : k < S.idxs.length) : T3 S (k + 1) = T3 S k ++ lineL (idxWords S.cols (rd_T40 S.idxs k)) := by
  unfold T3 rd_T40
  rw [List.take_succ_eq_append_getElem h, List.map_append, List.flatten_append, List.getD_eq_getElem?_getD]
  simp [List.getElem?_eq_getElem h]
theorem T3_all (S : Sch) : T3 S S.idxs.length = S.textL := by
  unfold T3 T2 T1 Sch.textL Sch.lineWords
  rw [List.take_of_length_le (Nat.le_refl _), List.take_of_length_le (Nat.le_refl _)]
  simp [List.map_append, List.flatten_append, Function.comp_def]
theorem joinTail_le (sep : List UInt8) (hs : sep.length = 1) : ∀ (r : List (List UInt8)), (∀ x ∈ r, x.length ≤ 20) → (Lib.joinTail sep r).length ≤ r.length * 21
  | [], _ => by simp [Lib.joinTail]
  | y :: r, h => by
    have ih := joinTail_le sep hs r (fun x hx => h x (List.mem_cons_of_mem _ hx))
    have hy := h y (List.mem_cons_self ..)
    simp only [Lib.joinTail, List.map_cons, List.flatten_cons, List.length_append, List.length_cons] at ih ⊢
    omega
theorem lineL_le (w : List UInt8) (ws : List (List UInt8)) (h : ∀ x ∈ w :: ws, x.length ≤ 20) : (lineL (w :: ws)).length ≤ (ws.length + 1) * 21 := by
  unfold lineL
  rw [List.length_append, Lib.join_cons, List.length_append]
  have h1 := joinTail_le [32] rfl ws (fun x hx => h x (List.mem_cons_of_mem _ hx))
  have h2 := h w (List.mem_cons_self ..)
  simp only [List.length_cons, List.length_nil]
  omega
theorem flat_le {α : Type} (f : α → List UInt8) (m : Nat) : ∀ (l : List α), (∀ x ∈ l, (f x).length ≤ m) → (l.map f).flatten.length ≤ l.length * m
  | [], _ => by simp
  | x :: l, h => by
    have ih := flat_le f m l (fun y hy => h y (List.mem_cons_of_mem _ hy))
    have hx := h x (List.mem_cons_self ..)
    simp only [List.map_cons, List.flatten_cons, List.length_append, List.length_cons, Nat.succ_mul]
    omega
theorem nm_len {s : ByteArray} {m : Nat} (h : nm s m = true) : s.data.toList.length ≤ m := by rw [← size_eq]; exact (nm_letters h).2.1
theorem kindL_len (c : Col) : (kindL c).length ≤ 5 := by
  unfold kindL kindT
  rw [List.length_append]
  have h1 : ∀ i : Nat, (kindsB.getD i ByteArray.empty).data.toList.length ≤ 4 := fun i => by
    rcases i with _ | _ | _ | _ | i
    · exact Nat.zero_le _
    · decide
    · decide
    · decide
    · exact Nat.zero_le _
  have h2 := h1 c.f1.toNat
  have h3 : (if c.f2 = true then [63] else [] : List UInt8).length ≤ 1 := by split <;> simp
  omega
theorem col_mem {S : Sch} (g : Good S) : ∀ c ∈ S.cols, nm c.f0 8 = true := fun c hc => by
  obtain ⟨i, hi, rfl⟩ := List.mem_iff_getElem.1 hc
  have := g.colName i hi
  rwa [List.getD_eq_getElem?_getD, List.getElem?_eq_getElem hi] at this
theorem colWords_le {c : Col} (h : nm c.f0 8 = true) : (lineL (colWords c)).length ≤ 63 := by
  refine Nat.le_trans (lineL_le _ _ ?_) (by simp)
  intro x hx
  simp only [List.mem_cons, List.not_mem_nil, or_false] at hx
  rcases hx with rfl | rfl | rfl
  · decide
  · have := nm_len h; omega
  · have := kindL_len c; omega
theorem idxWords_le {S : Sch} (g : Good S) {x : Idx} (hx : x ∈ S.idxs) : (lineL (idxWords S.cols x)).length ≤ 210 := by
  refine Nat.le_trans (lineL_le _ _ ?_) (by have := (g.idxCols x hx).2.1; simp; omega)
  intro y hy
  simp only [List.mem_cons, List.mem_map] at hy
  rcases hy with rfl | rfl | ⟨p, hp, rfl⟩
  · cases x.f2
    · exact (by decide : indexL.length ≤ 20)
    · exact (by decide : uniqueL.length ≤ 20)
  · have := nm_len (g.idxName x hx); omega
  · have := (g.idxCols x hx).2.2 p hp
    have := nm_len (g.colName p.toNat (by omega))
    omega
theorem T1_le {S : Sch} (g : Good S) (k : Nat) : (T1 S k).length ≤ 600 := by
  unfold T1
  have h1 : (lineL [tableL, S.name.data.toList]).length ≤ 42 := by
    refine Nat.le_trans (lineL_le _ _ ?_) (by simp)
    intro x hx
    simp only [List.mem_cons, List.not_mem_nil, or_false] at hx
    rcases hx with rfl | rfl
    · decide
    · have := nm_len g.name; omega
  have h2 := flat_le (fun c => lineL (colWords c)) 63 (S.cols.take k) (fun c hc => colWords_le (col_mem g c (List.mem_of_mem_take hc)))
  have h3 : (S.cols.take k).length ≤ 8 := by rw [List.length_take]; have := g.colMany.2; omega
  rw [List.length_append]
  omega
theorem key_le {S : Sch} (g : Good S) : (lineL [keyL, itoa S.key]).length ≤ 42 := by
  refine Nat.le_trans (lineL_le _ _ ?_) (by simp)
  intro x hx
  simp only [List.mem_cons, List.not_mem_nil, or_false] at hx
  rcases hx with rfl | rfl
  · decide
  · rw [(atoi_key S.key g.key.1 (by have := g.key.2; have := g.colMany.2; omega)).2]; simp
theorem T2_le {S : Sch} (g : Good S) : (T2 S).length ≤ 642 := by
  unfold T2
  have := T1_le g S.cols.length
  have := key_le g
  rw [List.length_append]
  omega
theorem T3_le {S : Sch} (g : Good S) (k : Nat) : (T3 S k).length ≤ 1500 := by
  unfold T3
  have h1 := T2_le g
  have h2 := flat_le (fun x => lineL (idxWords S.cols x)) 210 (S.idxs.take k) (fun x hx => idxWords_le g (List.mem_of_mem_take hx))
  have h3 : (S.idxs.take k).length ≤ 4 := by rw [List.length_take]; have := g.idxMany; omega
  rw [List.length_append]
  omega

/-! ### The walk -/
structure WS (w : World) (box : Array Value) (l : List UInt8) (W : World) : Prop where
  bx : W.heap[w.heap.size]? = some (.cells box 25 (0, 0))
  bu : Lib.IsBuilderF 62 5 (w.heap.size + 1) (w.heap.size + 1) (Lib.byteCells l) W
  be : Below w.heap.size w W
  sz : w.heap.size + 2 ≤ W.heap.size
theorem WS.below {w : World} {box : Array Value} {l : List UInt8} {W W1 : World} (h : WS w box l W) (hb : Below W.heap.size W W1) : WS w box l W1 :=
  ⟨(hb.block _ (blk_lt h.bx)).trans h.bx, isBuilderF_below h.bu hb, h.be.trans (hb.mono h.be.size), Nat.le_trans h.sz hb.size⟩
theorem WS.line {w : World} {box : Array Value} {l l' : List UInt8} {W W1 : World} (h : WS w box l W) (hu : Lib.IsBuilderF 62 5 (w.heap.size + 1) (w.heap.size + 1) (Lib.byteCells l') W1) (hb : Below (w.heap.size + 1) W W1) : WS w box l' W1 :=
  ⟨(hb.block _ (by omega)).trans h.bx, hu, h.be.trans (hb.mono (by omega)), Nat.le_trans h.sz hb.size⟩
theorem C_lit (V : World) (ws : List ByteArray) (hn : ws.length ≤ 9223372036854775807) : Kd.string.C (V.alloc (.cells (ws.map Value.string).toArray 9)) (some ⟨V.heap.size, 0, none⟩) ws.length ws := by
  refine ⟨rfl, hn, fun _ => ⟨_, rfl, fun j p hj => ⟨[.string p], rfl, rfl, fun i u hu => ?_⟩⟩⟩
  cases i with
  | succ i => simp at hu
  | zero =>
    have hu' : Value.string p = u := by simpa using hu
    subst hu'
    rw [add_at]
    have := blk_cell (heap_alloc_new V (.cells (ws.map Value.string).toArray 9)) j
    rw [show 0 + (j * Kd.string.sz + 0) = j by show 0 + (j * 1 + 0) = j; omega, this]
    simp [hj]
theorem alloc_below (V : World) (o : Obj) : Below V.heap.size V (V.alloc o) := (Below.refl _ _).alloc (Nat.le_refl _) o

end Go.Proofs.YtfkbpjeocljflaaDoor
