/-
  Statistics: a copy; comparison.
-/
import Derived.Test.YtjdncobdecdhmaaStats2
namespace Go.Proofs.Ytjdncobdecdhmaa
open Go.RowKit
set_option maxRecDepth 100000

/-- A small statistics value that owns all that it holds, in blocks from B on. -/
def StatsO (B H : Nat) (w : World) (x0 x1 : Value) (d : StatsD) : Prop :=
  ∃ A n c D m k r, x0 = .slice A n c ∧ x1 = .slice D m k ∧ Bag B (2 + m) w r ∧ r 0 = intRow A n c d.totals ∧ RowsTo (fun i => r (i + 1)) D m k d.cells m ∧ n ≤ 1048576 ∧ m ≤ 1048576 ∧ (∀ l ∈ d.cells, l.length ≤ 1048576) ∧ ∀ k, has (2 + m) r k → k < H
theorem StatsO.m {B H : Nat} {w : World} {x0 x1 : Value} {d : StatsD} (h : StatsO B H w x0 x1 d) : StatsM w x0 x1 d := by
  obtain ⟨A, n, c, D, m, k, r, rfl, rfl, hb, h0, hr, hn, hm, hs, -⟩ := h
  have ho : w.ownsRow B 3 1 (.slice A n c) n (d.totals.map (Value.int .i64)) := by
    have := hb.own 0 (by omega)
    rw [h0] at this
    exact this
  refine ⟨A, n, c, D, m, k, rfl, rfl, ints_of ho, hn, hr.m (N := 1 + m) ((hb.shift (o := 1) (M := 1 + m) (by omega)).congr fun i _ => by rw [Nat.add_comm]) (by omega) hs, hm⟩
theorem StatsO.only {S : Nat → Prop} {B H : Nat} {w w' : World} {x0 x1 : Value} {d : StatsD} (h : StatsO B H w x0 x1 d) (ho : Only S w w') (hs : ∀ k, S k → k < B ∨ H ≤ k) : StatsO B H w' x0 x1 d := by
  obtain ⟨A, n, c, D, m, k, r, rfl, rfl, hb, h0, hr, hn, hm, hz, hH⟩ := h
  exact ⟨A, n, c, D, m, k, r, rfl, rfl, hb.only ho fun j hj hS => by have := (hb.lt hj).1; have := hH j hj; have := hs j hS; omega, h0, hr, hn, hm, hz, hH⟩
theorem StatsO.below {B H : Nat} {w w' : World} {x0 x1 : Value} {d : StatsD} (h : StatsO B H w x0 x1 d) (hb : Below w.heap.size w w') : StatsO B H w' x0 x1 d :=
  h.only (Only.of_below (S := fun _ => False) hb) fun _ h => h.elim
theorem StatsO.mono {B B' H : Nat} {w : World} {x0 x1 : Value} {d : StatsD} (h : StatsO B H w x0 x1 d) (hB : B' ≤ B) : StatsO B' H w x0 x1 d := by
  obtain ⟨A, n, c, D, m, k, r, rfl, rfl, hb, h⟩ := h
  exact ⟨A, n, c, D, m, k, r, rfl, rfl, hb.mono hB, h⟩
theorem StatsO.up {B H H' : Nat} {w : World} {x0 x1 : Value} {d : StatsD} (h : StatsO B H w x0 x1 d) (hH : H ≤ H') : StatsO B H' w x0 x1 d := by
  obtain ⟨A, n, c, D, m, k, r, rfl, rfl, hb, h0, hr, hn, hm, hz, h⟩ := h
  exact ⟨A, n, c, D, m, k, r, rfl, rfl, hb, h0, hr, hn, hm, hz, fun k hk => Nat.lt_of_lt_of_le (h k hk) hH⟩
theorem StatsO.of {B B' : Nat} {w w' : World} {A D : Option Addr} {n c m k : Nat} {r : Nat → Row} {d : StatsD} (h1 : w.ownsRow B 3 1 (.slice A n c) n (d.totals.map (Value.int .i64))) (h2 : Bag B' (1 + m) w' r) (h3 : RowsTo r D m k d.cells m)
    (hb : Below w.heap.size w w') (hB : B ≤ B') (hw : w.heap.size ≤ B') (hn : n ≤ 1048576) (hm : m ≤ 1048576) (hs : ∀ l ∈ d.cells, l.length ≤ 1048576) : StatsO B w'.heap.size w' (.slice A n c) (.slice D m k) d := by
  have hbag : Bag B (2 + m) w' (rcat 1 (fun _ => intRow A n c d.totals) r) := by
    rw [show 2 + m = 1 + (1 + m) by omega]
    exact (Bag.one (s := intRow A n c d.totals) h1).cat h2 hB hw hb
  refine ⟨A, n, c, D, m, k, rcat 1 (fun _ => intRow A n c d.totals) r, rfl, rfl, hbag, by simp [rcat], ?_, hn, hm, hs, fun k hk => (hbag.lt hk).2⟩
  have e : (fun i => rcat 1 (fun _ => intRow A n c d.totals) r (i + 1)) = r := by funext i; simp [rcat]
  rw [e]
  exact h3
theorem cell_lens {w : World} {A : Option Addr} {n : Nat} {l : List (List Int)} (h : RowsM w A n l) : ∀ x ∈ l, x.length ≤ 1048576 := by
  intro x hx
  obtain ⟨i, hi, rfl⟩ := List.mem_iff_getElem.1 hx
  obtain ⟨ad, e, hlt, hc⟩ := h.2 (by have := h.1; omega)
  obtain ⟨cs, h1, ⟨A', n', c', _, h3, h4⟩, _⟩ := hc i hi
  have := h4.1
  omega

set_option maxHeartbeats 1000000 in
theorem eqStats_any (x0 x1 y0 y1 : Value) (d : StatsD) (w : World) (h : StatsM w x0 x1 d) (h' : StatsM w y0 y1 d) :
    Calls Try.prog 22 #[.agg #[x0, x1], .agg #[y0, y1]] w fun e w' => e = .returned (.bool true) ∧ Below w.heap.size w w' := by
  obtain ⟨A, n, c, D, m, k, rfl, rfl, hl, hn, hr, hm⟩ := h
  obtain ⟨A', n', c', D', m', k', rfl, rfl, hl', hn', hr', hm'⟩ := h'
  have hbox : Below w.heap.size w ((w.alloc (.cells #[.slice A n c, .slice D m k] 39)).alloc (.cells #[.slice A' n' c', .slice D' m' k'] 39)) := ((Below.refl _ _).alloc (Nat.le_refl _) _).alloc (by simp) _
  have HL := hide (hl.keep hbox)
  have HL' := hide (hl'.keep hbox)
  have HR := hide (hr.keep hbox)
  have HR' := hide (hr'.keep hbox)
  clear hl hr hl' hr'
  go_enter Try.func22, Try.ntmps22
  go_wp2_with (fail)
  refine (eqIntS_any _ _ _ _ _ _ d.totals d.totals _ HL.out HL'.out (by omega) (by omega)).mono ?_
  rintro e w1 ⟨rfl, q, rfl⟩
  simp only [decide_true]
  go_wp2_with (fail)
  refine (eqIntSS_any _ _ _ _ _ _ d.cells d.cells _ (HR.out.keep (below_drewN (Below.refl _ _) _)) (HR'.out.keep (below_drewN (Below.refl _ _) _)) (by omega) (by omega)).mono ?_
  rintro e w1 ⟨rfl, q', rfl⟩
  simp only [decide_true]
  go_wp2
  go_ret
  exact ⟨rfl, below_drewN hbox _⟩
end Go.Proofs.Ytjdncobdecdhmaa
