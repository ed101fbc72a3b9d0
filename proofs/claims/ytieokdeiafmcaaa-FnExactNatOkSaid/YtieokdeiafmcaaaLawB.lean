/-
  Walks of the laws BinOf, NatOk.
-/
import Derived.Test.YtieokdeiafmcaaaInts2
namespace Go.Proofs.Ytieokdeiafmcaaa
open Go.RowKit

theorem fnExactBinOf_walk (w : World) (A : Option Addr) (n c : Nat) (l : List Int) (hl : n ≤ maxLen) (hr : Ints w A n l) (x : Int) (_ : (Lit.int .i64 x).wf = true) :
    Calls Try.prog 9 #[.slice A n c, .int .i64 x] w fun e w' => e = .returned (.bool true) ∧ Below w.heap.size w w' := by
  have HR := hide hr
  clear hr
  unfold maxLen at hl
  by_cases h : n ≤ 1048576
  · go_enter Try.func9, Try.ntmps9
    go_wp2_with (fail)
    refine (toIntS_any _ _ _ l _ HR.out h).mono ?_
    rintro e w1 ⟨D1, m1, rfl, ho1, hb1⟩
    go_wp2_with (fail)
    refine (specBinOf_any _ _ _ l _ _ ho1.ints h).mono ?_
    rintro e w' ⟨rfl, rfl⟩
    go_wp2_with (fail)
    refine (toIntS_any _ _ _ l _ (HR.out.keep hb1) h).mono ?_
    rintro e w2 ⟨D2, m2, rfl, ho2, hb2⟩
    have hB2 := bthen hb1 hb2
    go_wp2_with (fail)
    refine (implBinOf_any _ _ _ l _ _ ho2.ints h).mono ?_
    rintro e w' ⟨rfl, rfl⟩
    go_wp2_with (fail)
    refine (toIntS_any _ _ _ l _ (HR.out.keep hB2) h).mono ?_
    rintro e w3 ⟨D3, m3, rfl, ho3, hb3⟩
    go_wp2_with (fail)
    refine (eqIntS_any _ _ _ _ _ _ l l _ (ho2.ints.keep hb3) ho3.ints h h).mono ?_
    rintro e w' ⟨rfl, q, rfl⟩
    simp only [decide_true]
    go_wp2
    go_ret
    exact ⟨rfl, below_drewN (bthen hB2 hb3) _⟩
  · go_enter Try.func9, Try.ntmps9
    go_wp2
    go_ret
    exact ⟨rfl, Below.refl _ _⟩

theorem fnExactNatOk_walk (w : World) (A : Option Addr) (n c : Nat) (l : List Int) (hl : n ≤ maxLen) (hr : Ints w A n l) :
    Calls Try.prog 10 #[.slice A n c] w fun e w' => e = .returned (.bool true) ∧ Below w.heap.size w w' := by
  have HR := hide hr
  clear hr
  unfold maxLen at hl
  by_cases h : n ≤ 1048576
  · go_enter Try.func10, Try.ntmps10
    go_wp2_with (fail)
    refine (toIntS_any _ _ _ l _ HR.out h).mono ?_
    rintro e w1 ⟨D1, m1, rfl, ho1, hb1⟩
    go_wp2_with (fail)
    refine (specNatOk_any _ _ _ l _ ho1.ints h).mono ?_
    rintro e w' ⟨rfl, rfl⟩
    go_wp2_with (fail)
    refine (toIntS_any _ _ _ l _ (HR.out.keep hb1) h).mono ?_
    rintro e w2 ⟨D2, m2, rfl, ho2, hb2⟩
    have hB2 := bthen hb1 hb2
    go_wp2_with (fail)
    refine (implNatOk_any _ _ _ l _ ho2.ints h).mono ?_
    rintro e w' ⟨rfl, rfl⟩
    go_wp2_with (fail)
    refine (toIntS_any _ _ _ l _ (HR.out.keep hB2) h).mono ?_
    rintro e w3 ⟨D3, m3, rfl, ho3, hb3⟩
    go_wp2_with (fail)
    refine (eqIntS_any _ _ _ _ _ _ l l _ (ho2.ints.keep hb3) ho3.ints h h).mono ?_
    rintro e w' ⟨rfl, q, rfl⟩
    simp only [decide_true]
    go_wp2
    go_ret
    exact ⟨rfl, below_drewN (bthen hB2 hb3) _⟩
  · go_enter Try.func10, Try.ntmps10
    go_wp2
    go_ret
    exact ⟨rfl, Below.refl _ _⟩
end Go.Proofs.Ytieokdeiafmcaaa
