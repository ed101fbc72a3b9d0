/-
  The law FnExactCutsOk.
-/
import Derived.Test.YtnnhngdconbbfaaAttr2
namespace Go.Proofs.Ytnnhngdconbbfaa
open Go.RowKit

set_option maxHeartbeats 1000000 in
theorem fnExactCutsOk_walk (w : World) (A : Option Addr) (n c : Nat) (l : List Int) (hl : n ≤ maxLen) (hr : Ints w A n l) :
    Calls Try.prog 21 #[.slice A n c] w fun e w' => e = .returned (.bool true) ∧ Below w.heap.size w w' := by
  have HR := hide hr
  clear hr
  unfold maxLen at hl
  by_cases h : n ≤ 1048576
  · go_enter Try.func21, Try.ntmps21
    go_wp2_with (fail)
    refine (toIntS_any _ _ _ l _ HR.out (by omega)).mono ?_
    rintro e w1 ⟨D1, m1, rfl, ho1, hb1⟩
    go_wp2_with (fail)
    refine (specCutsOk_any _ _ _ l _ ho1.ints (by omega)).mono ?_
    rintro e w1' ⟨rfl, hb1'⟩
    have hB1 := bthen hb1 hb1'
    go_wp2_with (fail)
    refine (toIntS_any _ _ _ l _ (HR.out.keep hB1) (by omega)).mono ?_
    rintro e w2 ⟨D2, m2, rfl, ho2, hb2⟩
    have hB2 := bthen hB1 hb2
    go_wp2_with (fail)
    refine (implCutsOk_any _ _ _ l _ ho2.ints (by omega)).mono ?_
    rintro e w2' ⟨rfl, hb2'⟩
    have hB2' := bthen hB2 hb2'
    go_wp2_with (fail)
    refine (toIntS_any _ _ _ l _ (HR.out.keep hB2') (by omega)).mono ?_
    rintro e w3 ⟨D3, m3, rfl, ho3, hb3⟩
    go_wp2_with (fail)
    refine (eqIntS_any _ _ _ _ _ _ l l _ ((ho2.ints.keep hb2').keep hb3) ho3.ints (by omega) (by omega)).mono ?_
    rintro e w' ⟨rfl, q, rfl⟩
    simp only [decide_true]
    go_wp2
    go_ret
    exact ⟨rfl, below_drewN (bthen hB2' hb3) _⟩
  · go_enter Try.func21, Try.ntmps21
    go_wp2
    go_ret
    exact ⟨rfl, Below.refl _ _⟩
end Go.Proofs.Ytnnhngdconbbfaa
