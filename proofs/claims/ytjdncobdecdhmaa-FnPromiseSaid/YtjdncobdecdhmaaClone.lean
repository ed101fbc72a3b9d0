/-
  Contracts: thin statistics.
-/
import Derived.Test.YtjdncobdecdhmaaStats3
import Derived.Test.YtjdncobdecdhmaaApp
namespace Go.Proofs.Ytjdncobdecdhmaa
open Go.RowKit
set_option maxRecDepth 100000

def thinD (d : StatsD) : StatsD := ⟨d.totals, []⟩
/-- Statistics of totals alone, owned. -/
theorem StatsO.thin {B : Nat} {w : World} {A : Option Addr} {n c : Nat} {l : List Int} (h : w.ownsRow B 3 1 (.slice A n c) n (l.map (Value.int .i64))) (hn : n ≤ 1048576) (hB : B ≤ w.heap.size) : StatsO B w.heap.size w (.slice A n c) (.slice none 0 0) ⟨l, []⟩ := by
  have hnil : (⟨28, 1, .slice none 0 0, 0, []⟩ : Row).own w.heap.size w := World.ownsRow_nil _ _ _ _
  exact StatsO.of (r := fun _ => ⟨28, 1, .slice none 0 0, 0, []⟩) (w := w) (B' := w.heap.size) h (Bag.one hnil) ⟨rfl, ⟨rfl, rfl, rfl, rfl⟩, fun i hi => by omega⟩ (Below.refl _ _) hB (Nat.le_refl _) hn (by omega) (fun l hl => by simp at hl)

set_option maxHeartbeats 1000000 in
theorem implThin_any (x0 x1 : Value) (d : StatsD) (w : World) (h : StatsM w x0 x1 d) :
    Calls Try.prog 35 #[.agg #[x0, x1]] w fun e w' => ∃ y0 y1, e = .returned (.agg #[y0, y1]) ∧ StatsO w.heap.size w'.heap.size w' y0 y1 (thinD d) ∧ Below w.heap.size w w' := by
  obtain ⟨A, n, c, D, m, k, rfl, rfl, hl, hn, -, -⟩ := h
  have hB0 : Below w.heap.size w ((w.alloc (.cells #[.slice A n c, .slice D m k] 39)).alloc (.cells #[.slice none 0 0, .slice none 0 0] 39)) := ((Below.refl _ _).alloc (Nat.le_refl _) _).alloc (by simp) _
  have HL := hide (hl.keep hB0)
  clear hl
  go_enter Try.func35, Try.ntmps35
  go_wp2_with (fail)
  refine (cloneInts_any A n c d.totals _ HL.out (by omega)).mono ?_
  rintro e w1 ⟨D1, m1, rfl, ho1, hb1⟩
  have hz1 : w.heap.size + 1 < w1.heap.size := by have := hb1.size; simp at this; omega
  have hB1 := bthen hB0 hb1
  obtain ⟨hc1, hf1⟩ := bcell hb1
  have ho1' : w1.ownsRow (w.heap.size + 2) 3 1 (.slice D1 n m1) n (d.totals.map (Value.int .i64)) := by simpa using ho1
  have HO := hide (StatsO.thin ho1' hn (by omega))
  have hR0 : w1.cell? ⟨w.heap.size + 1, 0, none⟩ = some (.slice none 0 0) := by go_simp
  have hR1 : w1.cell? ⟨w.heap.size + 1, 1, none⟩ = some (.slice none 0 0) := by go_simp
  clear hb1 ho1 ho1' hB0
  go_wp2
  have hW2 : Only (fun j => j < w.heap.size + 2) w1 ((w1.setCell ⟨w.heap.size + 1, 0, none⟩ (.slice D1 n m1)).setCell ⟨w.heap.size + 1, 1, none⟩ (.slice none 0 0)) :=
    ((Only.refl _ w1).setCell (show w.heap.size + 1 < w.heap.size + 2 by omega) _).setCell (show w.heap.size + 1 < w.heap.size + 2 by omega) _
  exact bodyPost_ret (v := .agg #[.slice D1 n m1, .slice none 0 0]) (by simp [results, Try.results35, go_sem, hR0, hR1]) rfl
    ⟨_, _, rfl, ((HO.out.only hW2 (fun j hj => .inl hj)).mono (by omega)).up (by simp), (hB1.setCell (by simp) _).setCell (by simp) _⟩

set_option maxHeartbeats 1000000 in
theorem specThin_any (x0 x1 : Value) (d : StatsD) (w : World) (h : StatsM w x0 x1 d) :
    Calls Try.prog 123 #[.agg #[x0, x1]] w fun e w' => ∃ y0 y1, e = .returned (.agg #[y0, y1]) ∧ StatsO w.heap.size w'.heap.size w' y0 y1 (thinD d) ∧ Below w.heap.size w w' := by
  obtain ⟨A, n, c, D, m, k, rfl, rfl, hl, hn, -, -⟩ := h
  have hB0 : Below w.heap.size w (((w.alloc (.cells #[.slice A n c, .slice D m k] 39)).alloc (.cells #[.slice none 0 0, .slice none 0 0] 39)).alloc (.cells #[] 3)) := (((Below.refl _ _).alloc (Nat.le_refl _) _).alloc (by simp) _).alloc (by simp; omega) _
  have hlen := hide hl.1
  have HC := hide (hl.keep hB0).cells
  have hown0 := own_empty ((w.alloc (.cells #[.slice A n c, .slice D m k] 39)).alloc (.cells #[.slice none 0 0, .slice none 0 0] 39)) (w.heap.size + 2) 3 1 (by simp)
  have hsz : ((w.alloc (.cells #[.slice A n c, .slice D m k] 39)).alloc (.cells #[.slice none 0 0, .slice none 0 0] 39)).heap.size = w.heap.size + 2 := by simp
  rw [hsz] at hown0
  clear hl hsz
  go_enter Try.func123, Try.ntmps123
  go_wp2_with (at_builtin; go_must (refine wpList_append_src _ rfl _ _ 28 rfl (w.heap.size + 2) 3 (.int .i64 0) 1 8 Try.underlying28 infoI rfl (by decide) _ 0 _ (d.totals.map (Value.int .i64)) rfl hown0 A n c rfl (by rw [List.length_map, Nat.mul_one]; exact hlen.out.symm) HC.out (by simp [Value.oneCell']) (by unfold maxLen; omega) (by omega) (by simp) ?_); intro v' w1 hown1 hb1 _ _; obtain ⟨D1, m1, rfl⟩ := own_shape hown1; have hc1 := fun b o h => hb1.cell (p := ⟨b, o, none⟩) h; have hf1 := fun b o h => hb1.frozen (p := ⟨b, o, none⟩) h; have hz1 : w.heap.size + 1 < w1.heap.size := by (have := hb1.size; simp at this; omega))
  have hR0 : w1.cell? ⟨w.heap.size + 1, 0, none⟩ = some (.slice none 0 0) := by go_simp
  have hR1 : w1.cell? ⟨w.heap.size + 1, 1, none⟩ = some (.slice none 0 0) := by go_simp
  have hB1 : Below w.heap.size w w1 := hB0.trans (hb1.mono (by omega))
  rw [Nat.zero_add, List.nil_append] at hown1
  have HO := StatsO.thin hown1 hn (by omega)
  have hW2 : Only (fun j => j < w.heap.size + 2) w1 ((w1.setCell ⟨w.heap.size + 1, 0, none⟩ (.slice D1 n m1)).setCell ⟨w.heap.size + 1, 1, none⟩ (.slice none 0 0)) :=
    ((Only.refl _ w1).setCell (show w.heap.size + 1 < w.heap.size + 2 by omega) _).setCell (show w.heap.size + 1 < w.heap.size + 2 by omega) _
  exact bodyPost_ret (v := .agg #[.slice D1 n m1, .slice none 0 0]) (by simp [results, Try.results123, go_sem, hR0, hR1]) rfl
    ⟨_, _, rfl, ((HO.only hW2 (fun j hj => .inl hj)).mono (by omega)).up (by simp), (hB1.setCell (by simp) _).setCell (by simp) _⟩
end Go.Proofs.Ytjdncobdecdhmaa
