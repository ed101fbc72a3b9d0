/-
  Contracts: fractions in lowest terms.
-/
import Derived.Test.YtnnhngdconbbfaaScal2
import Derived.BigRegion
namespace Go.Proofs.Ytnnhngdconbbfaa
open Go.RowKit

/-- Lowest terms. -/
def lowN (n d : Int) : Int := if fracOkB n d then n / gcdI n d else 0
def lowD (n d : Int) : Int := if fracOkB n d then d / gcdI n d else 0
theorem gcdI_bd {n d : Int} (hn : 0 ≤ n) (hd : 1 ≤ d) : 1 ≤ gcdI n d ∧ gcdI n d ≤ d := by
  rw [gcdI, if_pos (by omega)]
  have h1 : 0 < Nat.gcd n.toNat d.toNat := Nat.gcd_pos_of_pos_right _ (by omega)
  have h2 : Nat.gcd n.toNat d.toNat ≤ d.toNat := Nat.gcd_le_right _ (by omega)
  omega

set_option maxRecDepth 100000 in
set_option maxHeartbeats 1000000 in
theorem implFracLow_any (n d : Int) (w : World) :
    Calls Try.prog 73 #[.agg #[.int .i64 n, .int .i64 d]] w fun e w' => e = .returned (.agg #[.int .i64 (lowN n d), .int .i64 (lowD n d)]) ∧ Below w.heap.size w w' := by
  by_cases h : fracOkB n d = true
  · obtain ⟨h1, h2, h3, h4⟩ := fracOkB_le h
    obtain ⟨g1, g2⟩ := gcdI_bd h1 h3
    have hN := hide (show lowN n d = n / gcdI n d by rw [lowN, if_pos h])
    have hD := hide (show lowD n d = d / gcdI n d by rw [lowD, if_pos h])
    obtain ⟨g, hg⟩ : ∃ g, g = gcdI n d := ⟨_, rfl⟩
    rw [← hg] at g1 g2
    have HG := hide hg
    clear hg
    have b1 : 0 ≤ n / g := Int.ediv_nonneg h1 (by omega)
    have b2 : n / g ≤ n := Int.ediv_le_self g h1
    have b3 : 0 ≤ d / g := Int.ediv_nonneg (by omega) (by omega)
    have b4 : d / g ≤ d := Int.ediv_le_self g (by omega)
    go_enter Try.func73, Try.ntmps73
    go_wp2_with (fail)
    refine (implFracOk_any _ _ _).mono ?_
    rintro e w1 ⟨rfl, hb1⟩
    have hz1 : w.heap.size + 1 < w1.heap.size := by have := hb1.size; simp at this; omega
    have hz2 : w.heap.size < w1.heap.size := by omega
    obtain ⟨hc1, hf1⟩ := bcell hb1
    go_wp2_with (fail)
    refine (implGcd_any _ _ _).mono ?_
    rintro e w2 ⟨rfl, k, rfl⟩
    rw [← HG.out]
    have hg0 : (g == 0) = false := beq_eq_false_iff_ne.2 (by omega)
    go_wp2
    have hA0 : (w1.drewN k).cell? ⟨w.heap.size, 0, none⟩ = some (.int .i64 n) := by go_simp
    have hA1 : (w1.drewN k).cell? ⟨w.heap.size, 1, none⟩ = some (.int .i64 d) := by go_simp
    have hR0 : (w1.drewN k).cell? ⟨w.heap.size + 1, 0, none⟩ = some (.int .i64 0) := by go_simp
    have hR1 : (w1.drewN k).cell? ⟨w.heap.size + 1, 1, none⟩ = some (.int .i64 0) := by go_simp
    have hF0 : (w1.drewN k).frozen? ⟨w.heap.size + 1, 0, none⟩ = false := by go_simp
    have hF1 : (w1.drewN k).frozen? ⟨w.heap.size + 1, 1, none⟩ = false := by go_simp
    have hB : Below w.heap.size w (w1.drewN k) := below_drewN ((((Below.refl _ _).alloc (Nat.le_refl _) _).alloc (by simp) _).trans (hb1.mono (by simp; omega))) _
    clear hc1 hf1 hb1 hz1 hz2
    generalize w1.drewN k = W at *
    go_region
    go_wp2
    exact bodyPost_ret (v := .agg #[.int .i64 (n / g), .int .i64 (d / g)]) (by simp [results, Try.results73, go_sem, hR0, hR1]) rfl
      ⟨by rw [hN.out, hD.out, HG.out], ((hB.drew).setCell (by simp) _).setCell (by simp) _⟩
  · have hno : fracOkB n d = false := by simpa using h
    have hN := hide (show lowN n d = 0 by rw [lowN, if_neg h])
    have hD := hide (show lowD n d = 0 by rw [lowD, if_neg h])
    clear h
    go_enter Try.func73, Try.ntmps73
    go_wp2_with (fail)
    refine (implFracOk_any _ _ _).mono ?_
    rintro e w1 ⟨rfl, hb1⟩
    have hz1 : w.heap.size + 1 < w1.heap.size := by have := hb1.size; simp at this; omega
    obtain ⟨hc1, hf1⟩ := bcell hb1
    have hB : Below w.heap.size w w1 := ((((Below.refl _ _).alloc (Nat.le_refl _) _).alloc (by simp) _).trans (hb1.mono (by simp; omega)))
    clear hb1
    go_wp2
    exact bodyPost_ret (v := .agg #[.int .i64 0, .int .i64 0]) (by simp [results, Try.results73, go_sem, hc1]) rfl
      ⟨by rw [hN.out, hD.out], (hB.setCell (by simp) _).setCell (by simp) _⟩

set_option maxRecDepth 100000 in
set_option maxHeartbeats 1000000 in
theorem specFracLow_any (n d : Int) (w : World) :
    Calls Try.prog 72 #[.agg #[.int .i64 n, .int .i64 d]] w fun e w' => e = .returned (.agg #[.int .i64 (lowN n d), .int .i64 (lowD n d)]) ∧ Below w.heap.size w w' := by
  by_cases h : fracOkB n d = true
  · obtain ⟨h1, h2, h3, h4⟩ := fracOkB_le h
    obtain ⟨g1, g2⟩ := gcdI_bd h1 h3
    have hN := hide (show lowN n d = n / gcdI n d by rw [lowN, if_pos h])
    have hD := hide (show lowD n d = d / gcdI n d by rw [lowD, if_pos h])
    obtain ⟨g, hg⟩ : ∃ g, g = gcdI n d := ⟨_, rfl⟩
    rw [← hg] at g1 g2
    have HG := hide hg
    clear hg
    have b1 : 0 ≤ n / g := Int.ediv_nonneg h1 (by omega)
    have b2 : n / g ≤ n := Int.ediv_le_self g h1
    have b3 : 0 ≤ d / g := Int.ediv_nonneg (by omega) (by omega)
    have b4 : d / g ≤ d := Int.ediv_le_self g (by omega)
    go_enter Try.func72, Try.ntmps72
    go_wp2_with (fail)
    refine (specFracOk_any _ _ _).mono ?_
    rintro e w1 ⟨rfl, hb1⟩
    have hz1 : w.heap.size + 1 < w1.heap.size := by have := hb1.size; simp at this; omega
    have hz2 : w.heap.size < w1.heap.size := by omega
    obtain ⟨hc1, hf1⟩ := bcell hb1
    go_wp2_with (fail)
    refine (specGcd_any _ _ _).mono ?_
    rintro e w' ⟨rfl, rfl⟩
    rw [← HG.out]
    have hg0 : (g == 0) = false := beq_eq_false_iff_ne.2 (by omega)
    go_wp2
    have hA0 : w1.cell? ⟨w.heap.size, 0, none⟩ = some (.int .i64 n) := by go_simp
    have hA1 : w1.cell? ⟨w.heap.size, 1, none⟩ = some (.int .i64 d) := by go_simp
    have hR0 : w1.cell? ⟨w.heap.size + 1, 0, none⟩ = some (.int .i64 0) := by go_simp
    have hR1 : w1.cell? ⟨w.heap.size + 1, 1, none⟩ = some (.int .i64 0) := by go_simp
    have hF0 : w1.frozen? ⟨w.heap.size + 1, 0, none⟩ = false := by go_simp
    have hF1 : w1.frozen? ⟨w.heap.size + 1, 1, none⟩ = false := by go_simp
    have hB : Below w.heap.size w w1 := ((((Below.refl _ _).alloc (Nat.le_refl _) _).alloc (by simp) _).trans (hb1.mono (by simp; omega)))
    clear hc1 hf1 hb1 hz1 hz2
    obtain ⟨W, rfl⟩ : ∃ W, W = w1 := ⟨_, rfl⟩
    go_region
    go_wp2
    exact bodyPost_ret (v := .agg #[.int .i64 (n / g), .int .i64 (d / g)]) (by simp [results, Try.results72, go_sem, hR0, hR1]) rfl
      ⟨by rw [hN.out, hD.out, HG.out], ((hB.drew).setCell (by simp) _).setCell (by simp) _⟩
  · have hno : fracOkB n d = false := by simpa using h
    have hN := hide (show lowN n d = 0 by rw [lowN, if_neg h])
    have hD := hide (show lowD n d = 0 by rw [lowD, if_neg h])
    clear h
    go_enter Try.func72, Try.ntmps72
    go_wp2_with (fail)
    refine (specFracOk_any _ _ _).mono ?_
    rintro e w1 ⟨rfl, hb1⟩
    have hz1 : w.heap.size + 1 < w1.heap.size := by have := hb1.size; simp at this; omega
    obtain ⟨hc1, hf1⟩ := bcell hb1
    have hB : Below w.heap.size w w1 := ((((Below.refl _ _).alloc (Nat.le_refl _) _).alloc (by simp) _).trans (hb1.mono (by simp; omega)))
    clear hb1
    go_wp2
    exact bodyPost_ret (v := .agg #[.int .i64 0, .int .i64 0]) (by simp [results, Try.results72, go_sem, hc1]) rfl
      ⟨by rw [hN.out, hD.out], (hB.setCell (by simp) _).setCell (by simp) _⟩

theorem eqFrac_any (a b : Int) (w : World) :
    Calls Try.prog 74 #[.agg #[.int .i64 a, .int .i64 b], .agg #[.int .i64 a, .int .i64 b]] w fun e w' => e = .returned (.bool true) ∧ Below w.heap.size w w' := by
  go_enter Try.func74, Try.ntmps74
  go_wp2
  go_ret
  exact ⟨rfl, ((Below.refl _ _).alloc (Nat.le_refl _) _).alloc (by simp) _⟩

set_option maxHeartbeats 1000000 in
theorem fnExactFracLow_walk (w : World) (a b : Int) (_ : (Lit.int .i64 a).wf = true) (_ : (Lit.int .i64 b).wf = true) :
    Calls Try.prog 17 #[.agg #[.int .i64 a, .int .i64 b]] w fun e w' => e = .returned (.bool true) ∧ Below w.heap.size w w' := by
  go_enter Try.func17, Try.ntmps17
  obtain ⟨p, hp⟩ : ∃ p, p = lowN a b := ⟨_, rfl⟩
  obtain ⟨q, hq⟩ : ∃ q, q = lowD a b := ⟨_, rfl⟩
  have HP := hide hp
  have HQ := hide hq
  clear hp hq
  go_wp2_with (fail)
  refine (toFrac_any _ _ _).mono ?_
  rintro e w1 ⟨rfl, hb1⟩
  have hz1 : w.heap.size < w1.heap.size := by have := hb1.size; simp at this; omega
  obtain ⟨hc1, -⟩ := bcell hb1
  go_wp2_with (fail)
  refine (specFracLow_any _ _ _).mono ?_
  rintro e w2 ⟨rfl, hb2⟩
  rw [← HP.out, ← HQ.out]
  have hz2 : w.heap.size < w2.heap.size := by have := hb2.size; omega
  obtain ⟨hc2, -⟩ := bcell hb2
  have hB2 := ((Below.refl w.heap.size w).alloc (Nat.le_refl _) (.cells #[.int .i64 a, .int .i64 b] 24)).trans ((bthen hb1 hb2).mono (by simp))
  clear hb1 hb2
  go_wp2_with (fail)
  refine (toFrac_any _ _ _).mono ?_
  rintro e w3 ⟨rfl, hb3⟩
  have hz3 : w2.heap.size < w3.heap.size := by have := hb3.size; simp at this; omega
  obtain ⟨hc3, -⟩ := bcell hb3
  go_wp2_with (fail)
  refine (implFracLow_any _ _ _).mono ?_
  rintro e w4 ⟨rfl, hb4⟩
  rw [← HP.out, ← HQ.out]
  have hz4 : w2.heap.size < w4.heap.size := by have := hb4.size; omega
  obtain ⟨hc4, -⟩ := bcell hb4
  have hB4 := (hB2.alloc (by omega) (.cells #[.int .i64 p, .int .i64 q] 26)).trans ((bthen hb3 hb4).mono (by simp; omega))
  clear hb3 hb4 hB2
  go_wp2_with (fail)
  refine (eqFrac_any _ _ _).mono ?_
  rintro e w5 ⟨rfl, hb5⟩
  have hB5 := (hB4.alloc (by omega) (.cells #[.int .i64 p, .int .i64 q] 26)).trans (hb5.mono (by simp; omega))
  clear hb5 hB4 hc1 hc2 hc3 hc4
  go_wp2
  go_ret
  exact ⟨rfl, hB5⟩
end Go.Proofs.Ytnnhngdconbbfaa
