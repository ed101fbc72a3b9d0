/-
  Walk of the law EqualCuts.
-/
import Derived.Test.YtnnhngdconbbfaaCuts
namespace Go.Proofs.Ytnnhngdconbbfaa
open Go.RowKit

set_option maxHeartbeats 1000000 in
theorem fnExactEqualCuts_walk (w : World) (lo : Int) (_ : (Lit.int .i64 lo).wf = true) (hi : Int) (_ : (Lit.int .i64 hi).wf = true) (k : Int) (_ : (Lit.int .i64 k).wf = true) :
    Calls Try.prog 12 #[.int .i64 lo, .int .i64 hi, .int .i64 k] w fun e w' => e = .returned (.bool true) ∧ Below w.heap.size w w' := by
  have hlen : (eqCuts lo hi k).length ≤ 3 := by
    unfold eqCuts
    split
    · rename_i h
      have := eqCuts_num h
      rw [eqCutsTo_len]; omega
    · simp
  obtain ⟨l, hl⟩ : ∃ l, l = eqCuts lo hi k := ⟨_, rfl⟩
  rw [← hl] at hlen
  have HE := hide hl
  clear hl
  go_enter Try.func12, Try.ntmps12
  go_wp2_with (fail)
  refine (specEqualCuts_any _ _ _ _).mono ?_
  rintro e w1 ⟨D1, n1, m1, rfl, ho1, hn1, hb1⟩
  rw [← HE.out] at ho1 hn1
  subst hn1
  go_wp2_with (fail)
  refine (implEqualCuts_any _ _ _ _).mono ?_
  rintro e w2 ⟨D2, n2, m2, rfl, ho2, hn2, hb2⟩
  rw [← HE.out] at ho2 hn2
  subst hn2
  have hB2 := bthen hb1 hb2
  have hO1 := own_below ho1 hb2
  go_wp2_with (fail)
  refine (eqIntS_b _ _ _ _ _ _ l l _ (ints_of ho2) (ints_of hO1) (by omega) (by omega)).mono ?_
  rintro e w3 ⟨rfl, hb3⟩
  simp only [decide_true]
  have ho2' := own_below ho2 hb3
  go_wp2_with (fail)
  refine (markIntS_any _ _ _ _ l 1 _ ho2' (by omega) (by omega) (by omega)).mono ?_
  rintro e w4 ⟨rfl, ho4, hg4⟩
  have hB4 := below_only ho2' (bthen hB2 hb3) hg4 hb1.size
  have hO4 := (own_below hO1 hb3).kept hg4 (own_apart ho1 ho2 (Nat.le_refl _))
  go_wp2_with (fail)
  refine (heldIntS_any _ _ _ 1 _ (ints_of ho4) (by omega) (by omega) (by omega)).mono ?_
  rintro e w' ⟨rfl, rfl⟩
  go_wp2_with (fail)
  refine (implEqualCuts_any _ _ _ _).mono ?_
  rintro e w5 ⟨D5, n5, m5, rfl, ho5, hn5, hb5⟩
  rw [← HE.out] at ho5 hn5
  subst hn5
  go_wp2_with (fail)
  refine (eqIntS_b _ _ _ _ _ _ l l _ (ints_of ho5) (ints_of (own_below hO4 hb5)) (by omega) (by omega)).mono ?_
  rintro e w6 ⟨rfl, hb6⟩
  simp only [decide_true]
  have hb56 := bthen hb5 hb6
  go_wp2_with (fail)
  refine (heldIntS_any _ _ _ 1 _ (ints_of (own_below ho4 hb56)) (by omega) (by omega) (by omega)).mono ?_
  rintro e w' ⟨rfl, rfl⟩
  have hfin := bthen hB4 hb56
  clear hb1 hb2 hb3 hb5 hb6 hb56 hB2 hB4 hO1 hO4 ho1 ho2 ho2' ho4 ho5 hg4
  go_wp2
  go_ret
  exact ⟨rfl, hfin⟩
end Go.Proofs.Ytnnhngdconbbfaa
