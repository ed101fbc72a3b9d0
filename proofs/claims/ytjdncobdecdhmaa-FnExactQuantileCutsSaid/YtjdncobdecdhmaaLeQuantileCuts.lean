/-
  Proved: the law FnExactQuantileCuts returns true for every input that the row speaks of, and every argument reads as before. No condition.
-/
import Derived.Test.YtjdncobdecdhmaaLawS
import Derived.Test.YtjdncobdecdhmaaOpen
import Derived.Test.YtjdncobdecdhmaaHead
namespace Go.Proofs.Ytjdncobdecdhmaa.fnExactQuantileCuts
open Go.ChangeShapes Go.WideShapes Go.ChangeAt Go.RowKit
open Go.ChangeMaps (open_string)
set_option linter.unusedVariables false
set_option maxRecDepth 100000


theorem lifted (os : Os) (started : os.Started) (H : Type) (enc : TypeId × Value → H) :
    ReturnsInHanded {} Try.checked os 6 .any (Rows.fnExactQuantileCutsSpec.pre6 enc Try.prog Try.f6 Rows.fnExactQuantileCutsRow.domain false) (Rows.fnExactQuantileCutsSpec.post enc Try.prog Try.f6 false true false false) := by
  refine returnsInHanded_of_change (C := Try.checked) own started (by kernel_rfl) Try.func6
    (ChangeSpec.witness6 (enc := enc) (C := Try.checked) false ⟨#[], #[.slice none 0 0, .int .i64 0], []⟩ 8 (by kernel_rfl) (by kernel_rfl) (by kernel_rfl) (by kernel_rfl)) ?_
  intro W base args ds gs before hval0 hW hcnd _
  have hval : ∀ (j : Nat) t v, Try.f6.params[j]? = some t → args[j]? = some v → Value.okWide Try.prog W .any base t v := hval0
  have hW' := hW
  obtain ⟨p, q, hA0, hV, rfl, hfz, hnd⟩ := hW
  have hA : DataW.TrodAll enc Try.prog W 0 (fun _ => true) true Try.f6.params.toList args.toList ds p := hA0
  rw [Try.params6] at hA hval
  obtain ⟨v0, vs0, d0, ds0, p0, q0, hargs, rfl, rfl, h0, r0⟩ := trodAll_cons hA
  obtain ⟨v1, vs1, d1, ds1, p1, q1, rfl, rfl, rfl, h1, r1⟩ := trodAll_cons r0
  obtain ⟨rfl, rfl, rfl⟩ := trodAll_nil r1
  obtain rfl : args = #[v0, v1] := by cases args; simp_all
  obtain ⟨rfl, rfl⟩ := trodVars_none hV
  obtain ⟨A0, n0, c0, l0, rfl, w0, u0⟩ := open_intS (hval 0 28 v0 rfl rfl) h0
  obtain ⟨a1, rfl, -, -, w1⟩ := open_int Try.underlying3 (hval 1 3 v1 rfl rfl) h1
  exact law_post laidOut Try.underlying4 rfl (by rw [Try.params6]; exact readables (by kernel_rfl) (by kernel_rfl)) rfl hW' rfl rfl rfl (fnExactQuantileCuts_walk W A0 n0 c0 l0 w0 u0 a1 w1)

theorem facts : joinedFacts Try.prog 6 Try.f6 Rows.fnExactQuantileCutsSpec Rows.fnExactQuantileCutsRow = true := by
  unfold joinedFacts
  rw [mayEnter_yes, liftsFinal_no, make_cut]
  kernel_rfl

theorem over : Rows.fnExactQuantileCutsRow.holds Try.pinned (OpenSpec.ofChange Rows.fnExactQuantileCutsSpec) :=
  OpenClaim.holds_of_wide 6 Try.f6 rfl rfl rfl rfl rfl rfl rfl ⟨rfl, rfl, rfl, rfl, rfl⟩ rfl rfl rfl rfl rfl (by kernel_rfl) Try.func6 facts
    (of_decide_eq_true (by kernel_rfl)) (by unfold Func.isWrapper; first | (rw [if_pos (by decide +kernel)]; kernel_rfl) | (rw [if_neg (by decide +kernel)]; exact ⟨rfl, rfl⟩))
    (fun os started H enc _ => lifted os started H enc)

theorem proved : Rows.FnExactQuantileCutsSaid :=
  over
#print axioms proved
end Go.Proofs.Ytjdncobdecdhmaa.fnExactQuantileCuts
