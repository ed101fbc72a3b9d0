/-
  Statistics: a copy; comparison.
-/
import Derived.Test.YtnnhngdconbbfaaStats2
namespace Go.Proofs.Ytnnhngdconbbfaa
open Go.RowKit
set_option maxRecDepth 100000

/-- A small statistics value that owns all that it holds, in blocks from B on. -/
def StatsO (B H : Nat) (w : World) (x0 x1 : Value) (d : StatsD) : Prop :=
  ∃ A n c D m k r, x0 = .slice A n c ∧ x1 = .slice D m k ∧ Bag B (2 + m) w r ∧ r 0 = intRow A n c d.totals ∧ RowsTo (fun i => r (i + 1)) D m k d.cells m ∧ n ≤ 1048576 ∧ m ≤ 1048576 ∧ (∀ l ∈ d.cells, l.length ≤ 1048576) ∧ ∀ k, has (2 + m) r k → k < H
theorem StatsO.m {B H : Nat} {w : World} {x0 x1 : Value} {d : StatsD} (h : StatsO B H w x0 x1 d) : StatsM w x0 x1 d := by
  obtain ⟨A, n, c, D, m, k, r, rfl, rfl, hb, h0, hr, hn, hm, hs, -⟩ := h
  have ho : w.ownsRow B 3 1 (.slice A n c) n (d.totals.map (Value.int .i64)) := by
    have := hb.own 0 (by omega)
    rw [h0] at this
    exact this
  refine ⟨A, n, c, D, m, k, rfl, rfl, ints_of ho, hn, hr.m (N := 1 + m) ((hb.shift (o := 1) (M := 1 + m) (by omega)).congr fun i _ => by rw [Nat.add_comm]) (by omega) hs, hm⟩
theorem StatsO.only {S : Nat → Prop} {B H : Nat} {w w' : World} {x0 x1 : Value} {d : StatsD} (h : StatsO B H w x0 x1 d) (ho : Only S w w') (hs : ∀ k, S k → k < B ∨ H ≤ k) : StatsO B H w' x0 x1 d := by
  obtain ⟨A, n, c, D, m, k, r, rfl, rfl, hb, h0, hr, hn, hm, hz, hH⟩ := h
  exact ⟨A, n, c, D, m, k, r, rfl, rfl, hb.only ho fun j hj hS => by have := (hb.lt hj).1; have := hH j hj; have := hs j hS; omega, h0, hr, hn, hm, hz, hH⟩
theorem StatsO.below {B H : Nat} {w w' : World} {x0 x1 : Value} {d : StatsD} (h : StatsO B H w x0 x1 d) (hb : Below w.heap.size w w') : StatsO B H w' x0 x1 d :=
  h.only (Only.of_below (S := fun _ => False) hb) fun _ h => h.elim
theorem StatsO.mono {B B' H : Nat} {w : World} {x0 x1 : Value} {d : StatsD} (h : StatsO B H w x0 x1 d) (hB : B' ≤ B) : StatsO B' H w x0 x1 d := by
  obtain ⟨A, n, c, D, m, k, r, rfl, rfl, hb, h⟩ := h
  exact ⟨A, n, c, D, m, k, r, rfl, rfl, hb.mono hB, h⟩
theorem StatsO.up {B H H' : Nat} {w : World} {x0 x1 : Value} {d : StatsD} (h : StatsO B H w x0 x1 d) (hH : H ≤ H') : StatsO B H' w x0 x1 d := by
  obtain ⟨A, n, c, D, m, k, r, rfl, rfl, hb, h0, hr, hn, hm, hz, h⟩ := h
  exact ⟨A, n, c, D, m, k, r, rfl, rfl, hb, h0, hr, hn, hm, hz, fun k hk => Nat.lt_of_lt_of_le (h k hk) hH⟩
theorem StatsO.of {B B' : Nat} {w w' : World} {A D : Option Addr} {n c m k : Nat} {r : Nat → Row} {d : StatsD} (h1 : w.ownsRow B 3 1 (.slice A n c) n (d.totals.map (Value.int .i64))) (h2 : Bag B' (1 + m) w' r) (h3 : RowsTo r D m k d.cells m)
    (hb : Below w.heap.size w w') (hB : B ≤ B') (hw : w.heap.size ≤ B') (hn : n ≤ 1048576) (hm : m ≤ 1048576) (hs : ∀ l ∈ d.cells, l.length ≤ 1048576) : StatsO B w'.heap.size w' (.slice A n c) (.slice D m k) d := by
  have hbag : Bag B (2 + m) w' (rcat 1 (fun _ => intRow A n c d.totals) r) := by
    rw [show 2 + m = 1 + (1 + m) by omega]
    exact (Bag.one (s := intRow A n c d.totals) h1).cat h2 hB hw hb
  refine ⟨A, n, c, D, m, k, rcat 1 (fun _ => intRow A n c d.totals) r, rfl, rfl, hbag, by simp [rcat], ?_, hn, hm, hs, fun k hk => (hbag.lt hk).2⟩
  have e : (fun i => rcat 1 (fun _ => intRow A n c d.totals) r (i + 1)) = r := by funext i; simp [rcat]
  rw [e]
  exact h3
theorem cell_lens {w : World} {A : Option Addr} {n : Nat} {l : List (List Int)} (h : RowsM w A n l) : ∀ x ∈ l, x.length ≤ 1048576 := by
  intro x hx
  obtain ⟨i, hi, rfl⟩ := List.mem_iff_getElem.1 hx
  obtain ⟨ad, e, hlt, hc⟩ := h.2 (by have := h.1; omega)
  obtain ⟨cs, h1, ⟨A', n', c', _, h3, h4⟩, _⟩ := hc i hi
  have := h4.1
  omega

set_option maxHeartbeats 1000000 in
theorem toStats_own (x0 x1 : Value) (d : StatsD) (w : World) (h : StatsM w x0 x1 d) :
    Calls Try.prog 90 #[.agg #[x0, x1]] w fun e w' => ∃ y0 y1, e = .returned (.agg #[y0, y1]) ∧ StatsO w.heap.size w'.heap.size w' y0 y1 d ∧ Below w.heap.size w w' := by
  obtain ⟨A, n, c, D, m, k, rfl, rfl, hl, hn, hr, hm⟩ := h
  have HL := hide hl
  have HR := hide hr
  have hlen := hide hl.1
  clear hl hr
  go_enter Try.func90, Try.ntmps90
  go_wp2_with (fail)
  have hB0 : Below w.heap.size w (((w.alloc (.cells #[.slice A n c, .slice D m k] 74)).alloc (.cells #[.slice none 0 0, .slice none 0 0] 77)).alloc (.cells #[.slice none 0 0, .slice none 0 0] 77)) :=
    (((Below.refl _ _).alloc (Nat.le_refl _) _).alloc (by simp) _).alloc (by simp; omega) _
  refine (toIntS_any A n c d.totals _ (HL.out.keep hB0) (by omega)).mono ?_
  rintro e w1 ⟨D1, m1, rfl, ho1, hb1⟩
  have hz1 : w.heap.size + 2 < w1.heap.size := by have := hb1.size; simp at this; omega
  have hz1' : w.heap.size + 1 < w1.heap.size := by omega
  have hz1'' : w.heap.size < w1.heap.size := by omega
  have hB1 := bthen hB0 hb1
  obtain ⟨hc1, hf1⟩ := bcell hb1
  have ho1' : w1.ownsRow (w.heap.size + 3) 3 1 (.slice D1 n m1) n (d.totals.map (Value.int .i64)) := by
    have := ho1
    unfold OwnI at this
    rw [← hlen.out] at this
    simpa using this
  have HO := hide ho1'
  clear hb1 ho1 ho1'
  go_wp2_with (fail)
  refine (toIntSS_any D m k d.cells _ (HR.out.keep (hB1.setCell (by simp; omega) _)) (by omega)).mono ?_
  rintro e w2 ⟨D2, m2, r, rfl, hbag, hto, hb2⟩
  have hz2 := hb2.size
  have hB2 := bthen (hB1.setCell (p := ⟨w.heap.size + 2, 0, none⟩) (by simp) _) hb2
  obtain ⟨hc2, hf2⟩ := bcell hb2
  have hS0 : Only (fun j => j < w.heap.size + 3) w1 (w1.setCell ⟨w.heap.size + 2, 0, none⟩ (.slice D1 n m1)) := (Only.refl _ _).setCell (show w.heap.size + 2 < w.heap.size + 3 by omega) _
  have HSO := hide (StatsO.of (d := d) (own_only HO.out hS0 (fun j hj h => by have := (HO.out.lt j hj).1; omega)) hbag hto (by simpa using hb2) (by simp; omega) (by simp) hn hm (cell_lens HR.out))
  clear hbag hto hB0 hS0
  have hR0 : w2.cell? ⟨w.heap.size + 1, 0, none⟩ = some (.slice none 0 0) := by go_simp
  have hR1 : w2.cell? ⟨w.heap.size + 1, 1, none⟩ = some (.slice none 0 0) := by go_simp
  go_wp2
  have hW2 : Only (fun j => j < w.heap.size + 3) w2 (((w2.setCell ⟨w.heap.size + 1 + 1, 1, none⟩ (.slice D2 m m2)).setCell ⟨w.heap.size + 1, 0, none⟩ (.slice D1 n m1)).setCell ⟨w.heap.size + 1, 1, none⟩ (.slice D2 m m2)) :=
    (((Only.refl _ w2).setCell (show w.heap.size + 1 + 1 < w.heap.size + 3 by omega) _).setCell (show w.heap.size + 1 < w.heap.size + 3 by omega) _).setCell (show w.heap.size + 1 < w.heap.size + 3 by omega) _
  exact bodyPost_ret (v := .agg #[.slice D1 n m1, .slice D2 m m2]) (by simp [results, Try.results90, go_sem, hR0, hR1]) rfl
    ⟨_, _, rfl, ((HSO.out.only hW2 (fun j hj => .inl hj)).mono (by omega)).up (by simp),
      ((hB2.setCell (by simp; omega) _).setCell (by simp) _).setCell (by simp) _⟩
theorem toStats_any (x0 x1 : Value) (d : StatsD) (w : World) (h : StatsM w x0 x1 d) :
    Calls Try.prog 90 #[.agg #[x0, x1]] w fun e w' => ∃ y0 y1, e = .returned (.agg #[y0, y1]) ∧ StatsM w' y0 y1 d ∧ Below w.heap.size w w' :=
  (toStats_own x0 x1 d w h).mono fun _ _ ⟨y0, y1, h1, h2, h3⟩ => ⟨y0, y1, h1, h2.m, h3⟩

set_option maxHeartbeats 1000000 in
theorem eqStats_any (x0 x1 y0 y1 : Value) (d : StatsD) (w : World) (h : StatsM w x0 x1 d) (h' : StatsM w y0 y1 d) :
    Calls Try.prog 92 #[.agg #[x0, x1], .agg #[y0, y1]] w fun e w' => e = .returned (.bool true) ∧ Below w.heap.size w w' := by
  obtain ⟨A, n, c, D, m, k, rfl, rfl, hl, hn, hr, hm⟩ := h
  obtain ⟨A', n', c', D', m', k', rfl, rfl, hl', hn', hr', hm'⟩ := h'
  have hbox : Below w.heap.size w ((w.alloc (.cells #[.slice A n c, .slice D m k] 77)).alloc (.cells #[.slice A' n' c', .slice D' m' k'] 77)) := ((Below.refl _ _).alloc (Nat.le_refl _) _).alloc (by simp) _
  have HL := hide (hl.keep hbox)
  have HL' := hide (hl'.keep hbox)
  have HR := hide (hr.keep hbox)
  have HR' := hide (hr'.keep hbox)
  clear hl hr hl' hr'
  go_enter Try.func92, Try.ntmps92
  go_wp2_with (fail)
  refine (eqIntS_any _ _ _ _ _ _ d.totals d.totals _ HL.out HL'.out (by omega) (by omega)).mono ?_
  rintro e w1 ⟨rfl, q, rfl⟩
  simp only [decide_true]
  go_wp2_with (fail)
  refine (eqIntSS_any _ _ _ _ _ _ d.cells d.cells _ (HR.out.keep (below_drewN (Below.refl _ _) _)) (HR'.out.keep (below_drewN (Below.refl _ _) _)) (by omega) (by omega)).mono ?_
  rintro e w1 ⟨rfl, q', rfl⟩
  simp only [decide_true]
  go_wp2
  go_ret
  exact ⟨rfl, below_drewN hbox _⟩
end Go.Proofs.Ytnnhngdconbbfaa
