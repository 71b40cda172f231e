/-
  append of one stamp to a list of one's own: where it grows, the old block stays as it was. And the marks of the law.
-/
import Derived.Test.YtljkipkcabjcaaaCmp
import Derived.Test.YtljkipkcabjcaaaWRepsOne
namespace Go.Proofs.Ytljkipkcabjcaaa.PStampSorts
set_option linter.unusedSimpArgs false
set_option linter.unusedVariables false
open Go.RowKit Go.Proofs.YtljkipkcabjcaaaW.PrintWords Go.Proofs.YtljkipkcabjcaaaW.PrintLast Go.Proofs.YtljkipkcabjcaaaW.PrintMore
attribute [local go_sem high] eqA25
theorem app_run {P : Program} (W : World) (base : Nat) (t ty e : TypeId) (i : TypeInfo) (z : Value) (ht : P.underlying t = some (.slice e)) (hi : P.info? e = some i) (hz : i.zero = some z) (hzs : z.cells.size = i.size) (hs0 : 0 < i.size)
    (v : Value) (n : Nat) (xs ys : List Value) (hown : W.ownsRow base e i.size v n xs) (a : Addr) (hl : ys.length = i.size) (hnews : ∀ j u, ys[j]? = some u → W.cell? (a.add j) = some u) (h1 : ∀ u ∈ ys, u.oneCell' = true)
    (hb0 : 0 < i.bytes) (hbytes : (n + 1) * i.bytes ≤ 140737488355328) (hbase : base ≤ W.heap.size) :
    ∃ v1 w1, (Builtin.append_ #[t, t] ty #[v, .slice (some a) 1 1]).run P W = .ok v1 w1 ∧ w1.ownsRow base e i.size v1 (n + 1) (xs ++ ys) ∧ ((v1.ownBlock = v.ownBlock ∧ W.grownBy w1 v.ownBlock) ∨ (v1.ownBlock = some W.heap.size ∧ W.grownBy w1 none)) := by
  have hlen : n + 1 ≤ 140737488355328 := Nat.le_trans (Nat.le_mul_of_pos_right _ hb0) hbytes
  have hl1 : ys.length = 1 * i.size := by rw [hl, Nat.one_mul]
  obtain ⟨v1, w1, hrun, ho, hg, _, hat⟩ := run_append_own_at (P := P) W base t ty e i z i.size i.bytes ht hi hz rfl rfl hzs hs0 v n xs hown a 1 1 ys hl1 hnews h1 (by simp only [maxLen]; omega) hbytes hbase
  refine ⟨v1, w1, hrun, ho, ?_⟩
  rcases hown.2 with ⟨rfl, rfl⟩ | ⟨g, cap, cur, rfl, hbg, hh, hnc, hcm, hcs, htake⟩
  · rcases hat with hat | hat
    · exact .inl ⟨hat, hg⟩
    · exact .inr ⟨hat, hg⟩
  · by_cases hroom : n + 1 ≤ cap
    · have hfit : n * i.size + ys.length ≤ cur.size := by rw [hl1, hcs, ← Nat.add_mul]; exact Nat.mul_le_mul_right _ hroom
      have hr := run_append_room (P := P) W t ty e i ht hi g n cap cur hh a 1 1 ys hl1 hnews h1 hroom hfit
      rw [hrun] at hr
      injection hr with hv hw
      exact .inl ⟨by rw [hv]; rfl, hg⟩
    · have holds : ∀ j u, xs[j]? = some u → W.cell? ((⟨g, 0, none⟩ : Addr).add j) = some u := hown.cells (g := g) rfl
      have hr := run_append_grow (P := P) W t ty e i z ht hi hz ⟨g, 0, none⟩ n cap xs hown.1 holds a 1 1 ys hl1 hnews (by omega) (by omega) (growslice_fits (by omega) hbytes)
      rw [hrun] at hr
      injection hr with hv hw
      refine .inr ⟨by rw [hv]; rfl, ?_⟩
      rw [hw]
      exact ⟨rfl, rfl, rfl, by simp, fun k hk _ => heap_alloc_old W.drew _ hk⟩
/-- A list of stamps in a block of its own. -/
def Own (w : World) (v : Value) (xs : List S25) : Prop := Kd.R k25 25 w 0 (fun k => v.ownBlock = some k) v xs
theorem own_of {w : World} {base : Nat} {ok : Nat → Prop} {v : Value} {xs : List S25} (h : Kd.R k25 25 w base ok v xs) : Own w v xs := by
  obtain ⟨h0, inner, ho, hr⟩ := h
  refine ⟨fun k hk => hk, inner, own_weaken ho (Nat.zero_le _), hr.imp_ (fun x cs hM => ?_)⟩
  rw [k25_openM hM]
  exact k25_mkM _ _ _ _
theorem Own.to {w : World} {base : Nat} {ok : Nat → Prop} {v : Value} {xs : List S25} (h : Own w v xs) (hb : ∀ k, v.ownBlock = some k → base ≤ k) (hok : ∀ k, v.ownBlock = some k → ok k) : Kd.R k25 25 w base ok v xs := by
  obtain ⟨h0, inner, ho, hr⟩ := h
  refine ⟨hok, inner, ⟨ho.1, ?_⟩, hr.imp_ (fun x cs hM => ?_)⟩
  · rcases ho.2 with h | ⟨g, cap, cur, hv, _, rest⟩
    · exact .inl h
    · exact .inr ⟨g, cap, cur, hv, hb g (by rw [hv]; rfl), rest⟩
  · rw [k25_openM hM]
    exact k25_mkM _ _ _ _
theorem Own.keep {w w' : World} {v : Value} {xs : List S25} (h : Own w v xs) (hk : ∀ k, v.ownBlock = some k → w'.heap[k]? = w.heap[k]?) : Own w' v xs := Kd.R_move h hk
theorem Own.lt {w : World} {v : Value} {xs : List S25} (h : Own w v xs) {k : Nat} (hk : v.ownBlock = some k) : k < w.heap.size := Kd.R_lt h k hk
theorem Own.grown {w w' : World} {v : Value} {xs : List S25} (h : Own w v xs) {row : Option Nat} (hg : w.grownBy w' row) (hr : ∀ k, v.ownBlock = some k → some k ≠ row) : Own w' v xs := h.keep fun k hk => hg.block k (h.lt hk) (hr k hk)
theorem Own.below {w w' : World} {v : Value} {xs : List S25} (h : Own w v xs) (hb : Below w.heap.size w w') : Own w' v xs := h.keep fun k hk => hb.block k (h.lt hk)
theorem Own.reads {w : World} {v : Value} {xs : List S25} (h : Own w v xs) : ∃ A c, v = .slice A xs.length c ∧ xs.length ≤ c ∧ Kd.C k25 w A xs.length xs := Kd.R_reads h
section
variable {P : Program} {ops : Array Oper} {rest : List Oper} {o : Oper} {a : Act} {Q : Exit → Act → World → Prop}
theorem app25 {W : World} (hgd : o.guard = none) (s x : Operand) (ho : o.op = .call { callee := .builtin .append, args := #[s, x], argTypes := #[41, 41] })
    (ht : P.underlying 41 = some (.slice 25)) (hinfo : (P.info? 25).map (fun i => (i.zero, i.size, i.bytes)) = some (some (.agg #[(.int .u64 0), (.int .u32 0), (.int .u32 0)]), 3, 16))
    (v : Value) (xs : List S25) (p : S25) (hs : a.eval s = v) (hx : a.eval x = .slice (some ⟨W.heap.size, 0, none⟩) 1 1) (HO : Own W v xs) (hl : xs.length < 8796093022208)
    (h : ∀ v1 w1, Own w1 v1 (xs ++ [p]) → ((v1.ownBlock = v.ownBlock ∧ W.grownBy w1 v.ownBlock) ∨ (∃ b, v1.ownBlock = some b ∧ W.heap.size ≤ b ∧ W.grownBy w1 none)) → wpList P ops Q rest (a.put o.dst v1) w1) :
    wpList P ops Q (o :: rest) a (W.alloc (.cells #[.int .u64 p.f0, .int .u32 p.f1, .int .u32 p.f2] 25)) := by
  obtain ⟨i0, hi, hzz⟩ := Option.map_eq_some_iff.1 hinfo
  simp only [Prod.mk.injEq] at hzz
  obtain ⟨hz0, hz1, hz2⟩ := hzz
  have HO' : Own (W.alloc (.cells #[.int .u64 p.f0, .int .u32 p.f1, .int .u32 p.f2] 25)) v xs := HO.grown (World.grownBy_alloc W _ none) (fun k _ h => by cases h)
  obtain ⟨h0, inner, hown, hr⟩ := HO'
  obtain ⟨v1, w1, hrun, ho1, hcase⟩ := app_run (P := P) (W.alloc (.cells #[.int .u64 p.f0, .int .u32 p.f1, .int .u32 p.f2] 25)) 0 41 o.type 25 i0 _ ht hi hz0 (by rw [hz1]; rfl) (by rw [hz1]; decide) v xs.length inner [.int .u64 p.f0, .int .u32 p.f1, .int .u32 p.f2]
    (by rw [hz1]; exact hown) ⟨W.heap.size, 0, none⟩ (by rw [hz1]; rfl) (by simpa using World.news_of_block (cs := #[.int .u64 p.f0, .int .u32 p.f1, .int .u32 p.f2]) (t := 25) (fr := (0, 0)) (heap_alloc_new W (.cells #[.int .u64 p.f0, .int .u32 p.f1, .int .u32 p.f2] 25)))
    (by simp [Value.oneCell']) (by rw [hz2]; decide) (by rw [hz2]; omega) (Nat.zero_le _)
  rw [hz1] at ho1
  refine wpList_plain hgd fun K hK => ?_
  unfold Oper.wp execOp
  simp only [ho, resolve, invoke, builtin, Sem.run_bind, Sem.run_pure, Result.andThen_ok, List.map_toArray, List.map_cons, List.map_nil, hs, hx, hrun]
  refine hK _ _ (h v1 w1 ⟨fun k hk => hk, inner ++ [.int .u64 p.f0, .int .u32 p.f1, .int .u32 p.f2], by rw [List.length_append, List.length_singleton]; exact ho1, ?_⟩ ?_)
  · exact (hr.imp_ (fun q cs hM => by rw [k25_openM hM]; exact k25_mkM _ _ _ _)).snoc (k25_mkM _ _ _ p) rfl
  · rcases hcase with ⟨h1, h2⟩ | ⟨h1, h2⟩
    · exact .inl ⟨h1, World.grownBy.trans (World.grownBy_alloc W _ _) h2⟩
    · exact .inr ⟨_, h1, by simp, World.grownBy.trans (World.grownBy_alloc W _ _) h2⟩
end
/-- The law's mark. -/
def sg (i j : Int) : S25 := ⟨IntKind.u64.wrap i, j % 4294967296, 77⟩
end Go.Proofs.Ytljkipkcabjcaaa.PStampSorts
