/-
  The law FnExactDigits.
-/
import Derived.Test.YtohodehmidbmlaaDoorDigits2
namespace Go.Proofs.YtohodehmidbmlaaDoor
open Go.RowKit
set_option maxRecDepth 100000
theorem int_bds {x : Int} (h : (Lit.int .i64 x).wf = true) : -9223372036854775808 ≤ x ∧ x ≤ 9223372036854775807 := by
  have e1 : IntKind.i64.min = -9223372036854775808 := rfl
  have e2 : IntKind.i64.max = 9223372036854775807 := rfl
  simp [Lit.wf, e1, e2] at h
  omega

theorem fnExactDigits_walk (w : World) (x : Int) (h : (Lit.int .i64 x).wf = true) (ht : TabW w) :
    Calls Tryd.prog 6 #[.int .i64 x] w fun e w' => e = .returned (.bool true) ∧ Below w.heap.size w w' := by
  obtain ⟨h0, h1⟩ := int_bds h
  have HT := hide ht
  have hne : ((numB x).toList != (numB x).toList) = false := by simp
  clear ht h
  go_enter Tryd.func6, Tryd.ntmps6
  go_wp2_with (fail)
  refine (specDigits_any x h0 h1 _).mono ?_
  rintro e w1 ⟨rfl, hb1⟩
  replace HT := hide (HT.out.keep hb1)
  go_wp2_with (fail)
  refine (implDigits_any x h0 h1 _ HT.out).mono ?_
  rintro e w2 ⟨rfl, hb2⟩
  have hB := bthen hb1 hb2
  clear hb1 hb2
  go_wp2
  go_ret
  exact ⟨rfl, hB⟩
end Go.Proofs.YtohodehmidbmlaaDoor
