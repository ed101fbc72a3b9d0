/-
  Contracts: statistics copied by the reference.
-/
import Derived.Test.YtjdncobdecdhmaaVState
import Derived.Deep.RegionLaw
namespace Go.Proofs.Ytjdncobdecdhmaa
open Go.RowKit
set_option maxRecDepth 100000
set_option linter.unusedSimpArgs false

theorem own_one {W : World} (u : Value) (e : TypeId) : ∀ j v, ([u] : List Value)[j]? = some v → ∃ a, some (⟨W.heap.size, 0, none⟩ : Addr) = some a ∧ (W.alloc (.cells #[u] e)).cell? (a.add j) = some v :=
  new_cells rfl [u] e
theorem ints_one (l : List Int) : ∀ u ∈ l.map (Value.int .i64), u.oneCell' = true := by
  intro u hu
  obtain ⟨x, _, rfl⟩ := List.mem_map.1 hu
  rfl

theorem only_none {w W : World} (h : Only (fun _ => False) w W) : Below w.heap.size w W := Only.below (Below.refl _ _) (Nat.le_refl _) h fun _ hk => hk.elim

set_option maxHeartbeats 8000000 in
theorem l8Copy_any (x0 x1 : Value) (d : StatsD) (w : World) (h : StatsM w x0 x1 d) :
    Calls Try.prog 125 #[.agg #[x0, x1]] w fun e w' => ∃ y0 y1, e = .returned (.agg #[y0, y1]) ∧ StatsO w.heap.size w'.heap.size w' y0 y1 d ∧ Below w.heap.size w w' := by
  obtain ⟨A, n, c, D, m, k, rfl, rfl, hl, hn, hr, hm⟩ := h
  obtain ⟨W0, hW0⟩ : ∃ W, W = w.alloc (.cells #[.slice A n c, .slice D m k] 39) := ⟨_, rfl⟩
  have hz0 : W0.heap.size = w.heap.size + 1 := by rw [hW0]; simp
  have hal0 : Below w.heap.size w W0 := by rw [hW0]; exact (Below.refl _ _).alloc (Nat.le_refl _) _
  have hX0 : BoxW W0 w.heap.size (.slice A n c) (.slice D m k) := by rw [hW0]; exact BoxW.new _ _ _ _
  obtain ⟨W1, hW1⟩ : ∃ W, W = W0.alloc (.cells #[.slice none 0 0, .slice none 0 0] 39) := ⟨_, rfl⟩
  have hz1 : W1.heap.size = w.heap.size + 2 := by rw [hW1]; simp [hz0]
  have hal1 : Below W0.heap.size W0 W1 := by rw [hW1]; exact (Below.refl _ _).alloc (Nat.le_refl _) _
  have hR1 : BoxW W1 (w.heap.size + 1) (.slice none 0 0) (.slice none 0 0) := by rw [hW1, ← hz0]; exact BoxW.new _ _ _ _
  have hlit : Below W1.heap.size W1 (W1.alloc (.cells #[] 3)) := (Below.refl _ _).alloc (Nat.le_refl _) _
  have hX1 := (hX0.keep hal1).keep hlit
  have hB1 := bthen (bthen hal0 hal1) hlit
  have hlen := hide hl.1
  have HC := hide (hl.keep hB1).cells
  have hown0 := own_empty W1 W1.heap.size 3 1 (Nat.le_refl _)
  rw [hz1] at hown0
  have HR := hide (hr.keep hal0)
  have HAL0 := hide hal0
  have HAL1 := hide hal1
  have HW := hide (show W1 = (w.alloc (.cells #[.slice A n c, .slice D m k] 39)).alloc (.cells #[.slice none 0 0, .slice none 0 0] 39) by rw [hW1, hW0])
  have hml := hide hr.1
  clear hl hr hal0 hal1 hW0 hW1 hB1
  go_enter Try.func125, Try.ntmps125
  obtain ⟨x0, x1, f0, f1, xl⟩ := id hX1
  rw [HW.out] at x0 x1 f0 f1 xl
  go_wp2_with (at_builtin; rw [← HW.out] at x0 x1 f0 f1 xl ⊢; go_must (refine wpList_append_src _ rfl _ _ 28 rfl (w.heap.size + 2) 3 (.int .i64 0) 1 8 Try.underlying28 infoI rfl (by decide) _ 0 _ (d.totals.map (Value.int .i64)) rfl hown0 A n c rfl (by rw [List.length_map, Nat.mul_one]; exact hlen.out.symm) HC.out (ints_one _) (by unfold maxLen; omega) (by omega) (by simp; omega) ?_); intro v' w1 hown1 hb1 _ _; obtain ⟨D1, m1, rfl⟩ := own_shape hown1; have hc1 := fun b o h => hb1.cell (p := ⟨b, o, none⟩) h; have hf1 := fun b o h => hb1.frozen (p := ⟨b, o, none⟩) h)
  rw [Nat.zero_add, List.nil_append] at hown1
  have hR2 : BoxW w1 (w.heap.size + 1) (.slice none 0 0) (.slice none 0 0) := (hR1.keep hlit).low hb1 (by omega)
  have hBB : Below W0.heap.size W0 w1 := (bthen HAL1.out hlit).trans (hb1.mono (by omega))
  have hsz1 := hBB.size
  have HV := hide (vstate_first hR2 (by omega) (own_lower hown1 (by omega)) (fun j hj => by have := (hown1.lt j hj).1; omega) hn hBB 39)
  have HX2 := hide hX0
  clear hlit hX0 hX1 hR1 hR2 hown0 hown1 hb1 hc1 hf1 x0 x1 f0 f1 xl HC hlen HAL1 hBB HW
  go_wp2
  go_loopw [4] (fun i wr => ∃ K : Nat, K ≤ m ∧ i = .int .i64 K ∧ ∃ D' c' rr, VState W0 (fun _ => False) (w.heap.size + 1) w1.heap.size wr D1 n m1 D' K c' rr ⟨d.totals, d.cells.take K⟩) (fun i _ => m - (intOf i).toNat)
  case atStart => exact ⟨0, Nat.zero_le _, rfl, none, 0, _, HV.out⟩
  case round =>
    clear HV
    obtain ⟨K, hk, rfl, D', c', rr, hS⟩ := hrel
    have HS := hide hS
    clear hS
    have hB0 := hide (only_none HS.out.only)
    obtain ⟨x0, x1, f0, f1, xl⟩ := HX2.out.keep hB0.out
    by_cases hlt : K < m
    · obtain ⟨ad, A', n', c'', rfl, hadb, hcell, hn', hI⟩ := (HR.out.keep hB0.out).at_ hlt
      have hkl := hide (show K < d.cells.length by rw [← hml.out]; exact hlt)
      obtain ⟨L, hL⟩ : ∃ L, L = d.cells[K]?.getD [] := ⟨_, rfl⟩
      rw [← hL] at hI
      have hsn := hide (show d.cells.take K ++ [L] = d.cells.take (K + 1) by rw [hL, getD_of_lt hkl.out, List.take_succ_eq_append_getElem hkl.out])
      have HLL := hide (show n' = L.length from hI.1)
      have HI := hide hI
      clear hL hI
      obtain ⟨e0, e1, k0, k1, el⟩ := HS.out.box
      have hwr0 := hB0.out.size
      have hdr : Below wr.heap.size wr (wr.drew.alloc (.cells #[] 3)) := (Below.refl _ wr).drew.alloc (Nat.le_refl _) _
      have HDR := hide hdr
      have HC7 := hide (HI.out.keep hdr).cells
      have hown7 := hide (own_empty wr.drew wr.heap.size 3 1 (Nat.le_refl _))
      have hcell2 : (wr.alloc (.cells #[] 3)).cell? (ad.add K) = some (.slice A' n' c'') := (((Below.refl wr.heap.size wr).alloc (Nat.le_refl _) _).cell (by rw [block_of_add]; exact hadb)).trans hcell
      clear hdr
      go_wp2
      go_region_law (first
        | (refine step_append_src _ rfl (.tmp 19) (.tmp 24) 28 rfl wr.heap.size 3 (.int .i64 0) 1 8 Try.underlying28 infoI rfl (by decide) _ 0 _ (L.map (Value.int .i64)) rfl hown7.out A' n' c'' rfl (by rw [List.length_map, Nat.mul_one]; exact HLL.out.symm) HC7.out (ints_one _) (by unfold maxLen; omega) (by omega) (by simp) ?_; intro v8 w8 hown8 hb8 _ _; rw [Nat.zero_add, List.nil_append] at hown8; obtain ⟨D8, m8, rfl⟩ := own_shape hown8; have hx8 := (HS.out.keep (HDR.out.trans hb8)).box.c1; have hy8 : w8.cell? ⟨w.heap.size, 1, none⟩ = some (.slice (some ad) m k) := ((HDR.out.trans hb8).cell (p := ⟨w.heap.size, 1, none⟩) xl).trans x1; have hz8 : wr.heap.size + 1 ≤ w8.heap.size := (by have := hb8.size; simpa using this); have hq8 : w1.heap.size < w8.heap.size := (by omega); have hp8 : w.heap.size < w8.heap.size := (by omega); have HO8 := hide hown8; have H08 := hide (show Below wr.heap.size wr (w8.alloc (.cells #[.slice D8 n' m8] 28)) from (HDR.out.trans hb8).alloc (by omega) _); clear hown8 hb8)
        | (refine step_append_src _ rfl (.tmp 18) (.tmp 26) 37 rfl W0.heap.size 28 (.slice none 0 0) 1 24 Try.underlying37 infoR rfl (by decide) (.slice D' K c') K (rr 0).xs [.slice D8 n' m8] rfl (own_below HS.out.outer H08.out) _ 1 1 rfl rfl (own_one _ _) (by simp [Value.oneCell']) (by unfold maxLen; omega) (by omega) (by simp; omega) ?_; intro v' w9 hown9 hb9 hg9 hn9; obtain ⟨D9, m9, rfl⟩ := own_shape hown9; obtain ⟨y0, y1, q0, q1, yl⟩ := ((HS.out.keep H08.out).turn1 hb9 hg9).2.1))
      all_goals
        have hal8 : Below w8.heap.size w8 (w8.alloc (.cells #[.slice D8 n' m8] 28)) := (Below.refl _ _).alloc (Nat.le_refl _) _
        obtain ⟨A9, k9, rr9, e9, hS9⟩ := HS.out.addRow H08.out (own_below HO8.out hal8) hown9 hb9 hg9 hn9 (by omega) (by have := HLL.out; omega)
        injection e9 with e91 _ e92
        subst e91 e92
        have HS9 := hide (show VState W0 (fun _ => False) (w.heap.size + 1) w1.heap.size _ D1 n m1 D9 (K + 1) m9 rr9 ⟨d.totals, d.cells.take (K + 1)⟩ from by rw [← hsn.out]; exact hS9)
        clear hal8 hS9 hown9 hb9 hg9 hn9 x0 x1 f0 f1 xl e0 e1 k0 k1 el hx8 hy8 hcell hcell2 y0 y1 q0 q1 yl
        go_wp2
        exact ⟨⟨K + 1, by omega, by go_num, D9, m9, rr9, HS9.out⟩, by simp [intOf]; omega⟩
    · obtain rfl : K = m := by omega
      have hall := hide (show d.cells.take K = d.cells from List.take_of_length_le (by have := hml.out; omega))
      obtain ⟨e0, e1, k0, k1, el⟩ := HS.out.box
      obtain ⟨r0, r1, h0, h1, rl⟩ := HS.out.res
      have HFIN := hide (HS.out.fin (.slice D1 n m1) (.slice D' K c'))
      go_wp2
      exact bodyPost_ret (v := .agg #[.slice D1 n m1, .slice D' K c']) (by simp [results, Try.results125, go_sem, r0, r1]) rfl
        ⟨_, _, rfl, by have := HFIN.out.1.o; rw [hall.out] at this; exact this.mono (by omega), bthen HAL0.out (only_none HFIN.out.2.2)⟩
end Go.Proofs.Ytjdncobdecdhmaa
