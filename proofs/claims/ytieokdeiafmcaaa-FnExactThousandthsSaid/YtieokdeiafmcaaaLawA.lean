/-
  Walks of the laws FracOk, LnOf, Gcd, WordOk, Thousandths.
-/
import Derived.Test.YtieokdeiafmcaaaScal2
namespace Go.Proofs.Ytieokdeiafmcaaa
open Go.RowKit

theorem fnExactLnOf_walk (k : Int) (_ : (Lit.int .i64 k).wf = true) (w : World) :
    Calls Try.prog 5 #[.int .i64 k] w fun e w' => e = .returned (.bool true) ∧ Below w.heap.size w w' := by
  go_enter Try.func5, Try.ntmps5
  go_wp2_with (first | (go_at_call 16; refine (specLnOf_any _ _).mono ?_; rintro e w' ⟨rfl, rfl⟩) | (go_at_call 17; refine (implLnOf_any _ _).mono ?_; rintro e w' ⟨rfl, rfl⟩))
  go_ret
  exact ⟨rfl, Below.refl _ _⟩

theorem fnExactGcd_walk (a : Int) (_ : (Lit.int .i64 a).wf = true) (b : Int) (_ : (Lit.int .i64 b).wf = true) (w : World) :
    Calls Try.prog 6 #[.int .i64 a, .int .i64 b] w fun e w' => e = .returned (.bool true) ∧ Below w.heap.size w w' := by
  go_enter Try.func6, Try.ntmps6
  go_wp2_with (first | (go_at_call 18; refine (specGcd_any _ _ _).mono ?_; rintro e w' ⟨rfl, rfl⟩) | (go_at_call 19; refine (implGcd_any _ _ _).mono ?_; rintro e w' ⟨rfl, k, rfl⟩))
  go_ret
  exact ⟨rfl, below_drewN (Below.refl _ _) _⟩

theorem fnExactWordOk_walk (s : ByteArray) (hs : s.size ≤ maxLen) (w : World) :
    Calls Try.prog 7 #[.string s] w fun e w' => e = .returned (.bool true) ∧ Below w.heap.size w w' := by
  unfold maxLen at hs
  by_cases h : s.size ≤ 1048576
  all_goals
    go_enter Try.func7, Try.ntmps7
    go_wp2_with (first | (go_at_call 20; refine (specWordOk_any _ _ hs).mono ?_; rintro e w' ⟨rfl, rfl⟩) | (go_at_call 21; refine (implWordOk_any _ _ hs).mono ?_; rintro e w' ⟨rfl, rfl⟩))
    go_ret
    exact ⟨rfl, Below.refl _ _⟩

theorem fnExactFracOk_walk (a b : Int) (_ : (Lit.int .i64 a).wf = true) (_ : (Lit.int .i64 b).wf = true) (w : World) :
    Calls Try.prog 4 #[.agg #[.int .i64 a, .int .i64 b]] w fun e w' => e = .returned (.bool true) ∧ Below w.heap.size w w' := by
  go_enter Try.func4, Try.ntmps4
  go_wp2_with (fail)
  refine (toFrac_any _ _ _).mono ?_
  rintro e w1 ⟨rfl, hb1⟩
  have hz1 : w.heap.size < w1.heap.size := by have := hb1.size; simp at this; omega
  obtain ⟨hc1, -⟩ := bcell hb1
  go_wp2_with (fail)
  refine (specFracOk_any _ _ _).mono ?_
  rintro e w2 ⟨rfl, hb2⟩
  have hz2 : w.heap.size < w2.heap.size := by have := hb2.size; omega
  obtain ⟨hc2, -⟩ := bcell hb2
  have hB2 := ((Below.refl w.heap.size w).alloc (Nat.le_refl _) (.cells #[.int .i64 a, .int .i64 b] 24)).trans ((bthen hb1 hb2).mono (by simp))
  clear hb1 hb2
  go_wp2_with (fail)
  refine (toFrac_any _ _ _).mono ?_
  rintro e w3 ⟨rfl, hb3⟩
  go_wp2_with (fail)
  refine (implFracOk_any _ _ _).mono ?_
  rintro e w4 ⟨rfl, hb4⟩
  have hB4 := hB2.trans ((bthen hb3 hb4).mono (by omega))
  clear hb3 hb4 hc1 hc2
  go_wp2
  go_ret
  exact ⟨rfl, hB4⟩

theorem fnExactThousandths_walk (a b : Int) (_ : (Lit.int .i64 a).wf = true) (_ : (Lit.int .i64 b).wf = true) (w : World) :
    Calls Try.prog 8 #[.agg #[.int .i64 a, .int .i64 b]] w fun e w' => e = .returned (.bool true) ∧ Below w.heap.size w w' := by
  go_enter Try.func8, Try.ntmps8
  go_wp2_with (fail)
  refine (toFrac_any _ _ _).mono ?_
  rintro e w1 ⟨rfl, hb1⟩
  have hz1 : w.heap.size < w1.heap.size := by have := hb1.size; simp at this; omega
  obtain ⟨hc1, -⟩ := bcell hb1
  go_wp2_with (fail)
  refine (specThousandths_any _ _ _).mono ?_
  rintro e w2 ⟨rfl, hb2⟩
  have hz2 : w.heap.size < w2.heap.size := by have := hb2.size; omega
  obtain ⟨hc2, -⟩ := bcell hb2
  have hB2 := ((Below.refl w.heap.size w).alloc (Nat.le_refl _) (.cells #[.int .i64 a, .int .i64 b] 24)).trans ((bthen hb1 hb2).mono (by simp))
  clear hb1 hb2
  go_wp2_with (fail)
  refine (toFrac_any _ _ _).mono ?_
  rintro e w3 ⟨rfl, hb3⟩
  go_wp2_with (fail)
  refine (implThousandths_any _ _ _).mono ?_
  rintro e w4 ⟨rfl, hb4⟩
  have hB4 := hB2.trans ((bthen hb3 hb4).mono (by omega))
  clear hb3 hb4 hc1 hc2
  go_wp2
  go_ret
  exact ⟨rfl, hB4⟩

end Go.Proofs.Ytieokdeiafmcaaa
