/-
  Contracts: copies of slices; thin statistics.
-/
import Derived.Test.YtnnhngdconbbfaaStats3
import Derived.Lib.SliceRun
namespace Go.Proofs.Ytnnhngdconbbfaa
open Go.RowKit
set_option maxRecDepth 100000

/-- 'append(v, s...)': v an owned row, s any slice whose m elements lie in the cells us. -/
theorem wpList_append_src {P : Program} {ops : Array Oper} {rest : List Oper} {o : Oper} {a : Act} {Q : Exit → Act → World → Prop} (w : World) (hgd : o.guard = none) (s x : Operand) (t : TypeId)
    (ho : o.op = .call { callee := .builtin .append, args := #[s, x], argTypes := #[t, t] })
    (base : Nat) (e : TypeId) (z : Value) (size bytes : Nat) (ht : P.underlying t = some (.slice e)) (hi : (P.info? e).map (fun i => (i.zero, i.size, i.bytes)) = some (some z, size, bytes)) (hzs : z.cells.size = size) (hsz : 0 < size)
    (v : Value) (n : Nat) (xs us : List Value) (hs : a.eval s = v) (hown : w.ownsRow base e size v n xs)
    (A : Option Addr) (m c : Nat) (hx : a.eval x = .slice A m c) (hl : us.length = m * size) (hc : ∀ j u, us[j]? = some u → ∃ ad, A = some ad ∧ w.cell? (ad.add j) = some u) (h1 : ∀ u ∈ us, u.oneCell' = true)
    (h63 : n + m ≤ maxLen) (hbytes : (n + m) * bytes ≤ 140737488355328) (hbase : base ≤ w.heap.size)
    (h : ∀ v' w', w'.ownsRow base e size v' (n + m) (xs ++ us) → Below base w w' → w.grownBy w' v.ownBlock → (∀ g, v'.ownBlock = some g → v.ownBlock = some g ∨ w.heap.size ≤ g) → wpList P ops Q rest (a.put o.dst v') w') :
    wpList P ops Q (o :: rest) a w := by
  obtain ⟨i0, hi0, hz0, hz1, hz2⟩ := info_parts hi
  have fin : ∀ v' w', (Builtin.append_ #[t, t] o.type #[v, .slice A m c]).run P w = .ok v' w' → w'.ownsRow base e size v' (n + m) (xs ++ us) → w.grownBy w' v.ownBlock → (∀ g, v'.ownBlock = some g → v.ownBlock = some g ∨ w.heap.size ≤ g) → wpList P ops Q (o :: rest) a w := by
    intro v' w' hr k1 k2 k3
    refine wpList_plain hgd fun K hK => ?_
    unfold Oper.wp execOp
    simp only [ho, resolve, invoke, builtin, Sem.run_bind, Sem.run_pure, Result.andThen_ok, List.map_toArray, List.map_cons, List.map_nil, hs, hx, hr]
    refine hK _ _ (h v' w' k1 ⟨k2.os, k2.tape, k2.output, k2.size, fun k hk => k2.block k (by omega) (fun e => ?_)⟩ k2 k3)
    have := (hown.lt k e.symm).1
    omega
  rcases A with _ | ad
  · have hm : us = [] := by
      rcases us with _ | ⟨u, us⟩
      · rfl
      · obtain ⟨ad, h, _⟩ := hc 0 u rfl
        cases h
    subst hm
    have hm0 : m = 0 := by
      have h0 : m * size = 0 := by simpa using hl.symm
      rcases Nat.mul_eq_zero.1 h0 with h0 | h0 <;> omega
    subst hm0
    refine fin v w ?_ (by simpa using hown) (World.grownBy.refl _ _) fun g hg => .inl hg
    rcases hown.2 with ⟨rfl, rfl⟩ | ⟨g, cap, cur, rfl, _, _, hnc, _⟩
    · simp [Builtin.append_, run_underlying ht, sizeOf, typeInfo, hi0, Builtin.lenOf, Builtin.firstCells]
    · simp [Builtin.append_, run_underlying ht, sizeOf, typeInfo, hi0, Builtin.lenOf, Builtin.firstCells, hnc, storeCells]
  · obtain ⟨v', w', hr, k1, k2, _, k4⟩ := run_append_own_at (P := P) w base t o.type e i0 z size bytes ht hi0 hz0 hz1 hz2 hzs hsz v n xs hown ad m c us hl
      (fun j u hu => by obtain ⟨ad', e1, h2⟩ := hc j u hu; injection e1 with e1; subst e1; exact h2) h1 h63 hbytes hbase
    refine fin v' w' hr k1 k2 fun g hg => ?_
    rcases k4 with k4 | k4
    · exact .inl (k4 ▸ hg)
    · rw [k4] at hg
      injection hg with hg
      exact .inr (by omega)
theorem Ints.cells {w : World} {A : Option Addr} {n : Nat} {l : List Int} (h : Ints w A n l) : ∀ j u, (l.map (Value.int .i64))[j]? = some u → ∃ ad, A = some ad ∧ w.cell? (ad.add j) = some u := by
  intro j u hu
  have hj : j < l.length := by
    rcases Nat.lt_or_ge j l.length with h | h
    · exact h
    · rw [List.getElem?_eq_none (by simpa using h)] at hu; cases hu
  obtain ⟨ad, e, _, hc⟩ := h.at_ (k := j) (by have := h.1; omega)
  rw [getD_map_int hj] at hu
  injection hu with hu
  subst hu
  exact ⟨ad, e, hc⟩

set_option maxHeartbeats 1000000 in
theorem cloneInts_any (A : Option Addr) (n c : Nat) (l : List Int) (w : World) (hl : Ints w A n l) (hn : n ≤ 2097152) :
    Calls Try.prog 150 #[.slice A n c] w fun e w' => ∃ D m, e = .returned (.slice D n m) ∧ w'.ownsRow w.heap.size 3 1 (.slice D n m) n (l.map (Value.int .i64)) ∧ Below w.heap.size w w' := by
  have HL := hide hl
  have hlen := hide hl.1
  clear hl
  have he := fun (w : World) => Lib.run_eql_slice_nil (P := Try.prog) w 35 3 A n c 0 0 Try.underlying35
  rcases A with _ | ad
  · have hn0 : n = 0 := by
      rcases Nat.eq_zero_or_pos n with h | h
      · exact h
      · obtain ⟨ad, e, _⟩ := HL.out.2 h
        cases e
    subst hn0
    have hnil : l = [] := List.eq_nil_of_length_eq_zero hlen.out.symm
    subst hnil
    clear hlen
    simp only [Option.isNone_none] at he
    go_enter Try.func150, Try.ntmps150
    go_wp2
    go_ret
    exact ⟨none, 0, rfl, World.ownsRow_nil _ _ _ _, Below.refl _ _⟩
  · simp only [Option.isNone_some] at he
    have hown0 := own_empty w w.heap.size 3 1 (Nat.le_refl _)
    have hal : Below w.heap.size w (w.alloc (.cells #[] 3)) := (Below.refl _ _).alloc (Nat.le_refl _) _
    have HC := hide (HL.out.keep hal).cells
    go_enter Try.func150, Try.ntmps150
    go_wp2_with (at_builtin; go_must (refine wpList_append_src _ rfl _ _ 35 rfl w.heap.size 3 (.int .i64 0) 1 8 Try.underlying35 infoI rfl (by decide) _ 0 _ (l.map (Value.int .i64)) rfl hown0 (some ad) n c rfl (by rw [List.length_map, Nat.mul_one]; exact hlen.out.symm) HC.out (by simp [Value.oneCell']) (by unfold maxLen; omega) (by omega) (by simp) ?_); intro v' w1 hown1 hb1 _ _)
    obtain ⟨D, m, rfl⟩ := own_shape hown1
    go_ret
    exact ⟨D, m, by rw [Nat.zero_add]; rfl, by simpa using hown1, hal.trans hb1⟩

def thinD (d : StatsD) : StatsD := ⟨d.totals, []⟩
/-- Statistics of totals alone, owned. -/
theorem StatsO.thin {B : Nat} {w : World} {A : Option Addr} {n c : Nat} {l : List Int} (h : w.ownsRow B 3 1 (.slice A n c) n (l.map (Value.int .i64))) (hn : n ≤ 1048576) (hB : B ≤ w.heap.size) : StatsO B w.heap.size w (.slice A n c) (.slice none 0 0) ⟨l, []⟩ := by
  have hnil : (⟨35, 1, .slice none 0 0, 0, []⟩ : Row).own w.heap.size w := World.ownsRow_nil _ _ _ _
  exact StatsO.of (r := fun _ => ⟨35, 1, .slice none 0 0, 0, []⟩) (w := w) (B' := w.heap.size) h (Bag.one hnil) ⟨rfl, ⟨rfl, rfl, rfl, rfl⟩, fun i hi => by omega⟩ (Below.refl _ _) hB (Nat.le_refl _) hn (by omega) (fun l hl => by simp at hl)

set_option maxHeartbeats 1000000 in
theorem implThin_any (x0 x1 : Value) (d : StatsD) (w : World) (h : StatsM w x0 x1 d) :
    Calls Try.prog 94 #[.agg #[x0, x1]] w fun e w' => ∃ y0 y1, e = .returned (.agg #[y0, y1]) ∧ StatsO w.heap.size w'.heap.size w' y0 y1 (thinD d) ∧ Below w.heap.size w w' := by
  obtain ⟨A, n, c, D, m, k, rfl, rfl, hl, hn, -, -⟩ := h
  have hB0 : Below w.heap.size w ((w.alloc (.cells #[.slice A n c, .slice D m k] 77)).alloc (.cells #[.slice none 0 0, .slice none 0 0] 77)) := ((Below.refl _ _).alloc (Nat.le_refl _) _).alloc (by simp) _
  have HL := hide (hl.keep hB0)
  clear hl
  go_enter Try.func94, Try.ntmps94
  go_wp2_with (fail)
  refine (cloneInts_any A n c d.totals _ HL.out (by omega)).mono ?_
  rintro e w1 ⟨D1, m1, rfl, ho1, hb1⟩
  have hz1 : w.heap.size + 1 < w1.heap.size := by have := hb1.size; simp at this; omega
  have hB1 := bthen hB0 hb1
  obtain ⟨hc1, hf1⟩ := bcell hb1
  have ho1' : w1.ownsRow (w.heap.size + 2) 3 1 (.slice D1 n m1) n (d.totals.map (Value.int .i64)) := by simpa using ho1
  have HO := hide (StatsO.thin ho1' hn (by omega))
  have hR0 : w1.cell? ⟨w.heap.size + 1, 0, none⟩ = some (.slice none 0 0) := by go_simp
  have hR1 : w1.cell? ⟨w.heap.size + 1, 1, none⟩ = some (.slice none 0 0) := by go_simp
  clear hb1 ho1 ho1' hB0
  go_wp2
  have hW2 : Only (fun j => j < w.heap.size + 2) w1 ((w1.setCell ⟨w.heap.size + 1, 0, none⟩ (.slice D1 n m1)).setCell ⟨w.heap.size + 1, 1, none⟩ (.slice none 0 0)) :=
    ((Only.refl _ w1).setCell (show w.heap.size + 1 < w.heap.size + 2 by omega) _).setCell (show w.heap.size + 1 < w.heap.size + 2 by omega) _
  exact bodyPost_ret (v := .agg #[.slice D1 n m1, .slice none 0 0]) (by simp [results, Try.results94, go_sem, hR0, hR1]) rfl
    ⟨_, _, rfl, ((HO.out.only hW2 (fun j hj => .inl hj)).mono (by omega)).up (by simp), (hB1.setCell (by simp) _).setCell (by simp) _⟩

set_option maxHeartbeats 1000000 in
theorem specThin_any (x0 x1 : Value) (d : StatsD) (w : World) (h : StatsM w x0 x1 d) :
    Calls Try.prog 93 #[.agg #[x0, x1]] w fun e w' => ∃ y0 y1, e = .returned (.agg #[y0, y1]) ∧ StatsO w.heap.size w'.heap.size w' y0 y1 (thinD d) ∧ Below w.heap.size w w' := by
  obtain ⟨A, n, c, D, m, k, rfl, rfl, hl, hn, -, -⟩ := h
  have hB0 : Below w.heap.size w (((w.alloc (.cells #[.slice A n c, .slice D m k] 77)).alloc (.cells #[.slice none 0 0, .slice none 0 0] 77)).alloc (.cells #[] 3)) := (((Below.refl _ _).alloc (Nat.le_refl _) _).alloc (by simp) _).alloc (by simp; omega) _
  have hlen := hide hl.1
  have HC := hide (hl.keep hB0).cells
  have hown0 := own_empty ((w.alloc (.cells #[.slice A n c, .slice D m k] 77)).alloc (.cells #[.slice none 0 0, .slice none 0 0] 77)) (w.heap.size + 2) 3 1 (by simp)
  have hsz : ((w.alloc (.cells #[.slice A n c, .slice D m k] 77)).alloc (.cells #[.slice none 0 0, .slice none 0 0] 77)).heap.size = w.heap.size + 2 := by simp
  rw [hsz] at hown0
  clear hl hsz
  go_enter Try.func93, Try.ntmps93
  go_wp2_with (at_builtin; go_must (refine wpList_append_src _ rfl _ _ 35 rfl (w.heap.size + 2) 3 (.int .i64 0) 1 8 Try.underlying35 infoI rfl (by decide) _ 0 _ (d.totals.map (Value.int .i64)) rfl hown0 A n c rfl (by rw [List.length_map, Nat.mul_one]; exact hlen.out.symm) HC.out (by simp [Value.oneCell']) (by unfold maxLen; omega) (by omega) (by simp) ?_); intro v' w1 hown1 hb1 _ _; obtain ⟨D1, m1, rfl⟩ := own_shape hown1; have hc1 := fun b o h => hb1.cell (p := ⟨b, o, none⟩) h; have hf1 := fun b o h => hb1.frozen (p := ⟨b, o, none⟩) h; have hz1 : w.heap.size + 1 < w1.heap.size := by (have := hb1.size; simp at this; omega))
  have hR0 : w1.cell? ⟨w.heap.size + 1, 0, none⟩ = some (.slice none 0 0) := by go_simp
  have hR1 : w1.cell? ⟨w.heap.size + 1, 1, none⟩ = some (.slice none 0 0) := by go_simp
  have hB1 : Below w.heap.size w w1 := hB0.trans (hb1.mono (by omega))
  rw [Nat.zero_add, List.nil_append] at hown1
  have HO := StatsO.thin hown1 hn (by omega)
  have hW2 : Only (fun j => j < w.heap.size + 2) w1 ((w1.setCell ⟨w.heap.size + 1, 0, none⟩ (.slice D1 n m1)).setCell ⟨w.heap.size + 1, 1, none⟩ (.slice none 0 0)) :=
    ((Only.refl _ w1).setCell (show w.heap.size + 1 < w.heap.size + 2 by omega) _).setCell (show w.heap.size + 1 < w.heap.size + 2 by omega) _
  exact bodyPost_ret (v := .agg #[.slice D1 n m1, .slice none 0 0]) (by simp [results, Try.results93, go_sem, hR0, hR1]) rfl
    ⟨_, _, rfl, ((HO.only hW2 (fun j hj => .inl hj)).mono (by omega)).up (by simp), (hB1.setCell (by simp) _).setCell (by simp) _⟩
end Go.Proofs.Ytnnhngdconbbfaa
