/-
  Proved: the law FnExactStatsTotal returns true for every input that the row speaks of, and every argument reads as before. No condition.
-/
import Derived.Test.YtnnhngdconbbfaaLawP
import Derived.Test.YtnnhngdconbbfaaOpen
import Derived.Test.YtnnhngdconbbfaaHead
namespace Go.Proofs.Ytnnhngdconbbfaa.fnExactStatsTotal
open Go.ChangeShapes Go.WideShapes Go.ChangeAt Go.RowKit
open Go.ChangeMaps (open_string)
set_option linter.unusedVariables false
set_option maxRecDepth 100000


theorem lifted (os : Os) (started : os.Started) (H : Type) (enc : TypeId × Value → H) :
    ReturnsInHanded {} Try.checked os 33 .any (Rows.fnExactStatsTotalSpec.pre6 enc Try.prog Try.f33 Rows.fnExactStatsTotalRow.domain false) (Rows.fnExactStatsTotalSpec.post enc Try.prog Try.f33 false true false false) := by
  refine returnsInHanded_of_change (C := Try.checked) own started (by kernel_rfl) Try.func33
    (ChangeSpec.witness6 (enc := enc) (C := Try.checked) false ⟨#[], #[.agg #[.slice none 0 0, .slice none 0 0], .agg #[.slice none 0 0, .slice none 0 0]], []⟩ 8 (by kernel_rfl) (by kernel_rfl) (by kernel_rfl) (by kernel_rfl)) ?_
  intro W base args ds gs before hval0 hW hcnd _
  have hval : ∀ (j : Nat) t v, Try.f33.params[j]? = some t → args[j]? = some v → Value.okWide Try.prog W .any base t v := hval0
  have hW' := hW
  obtain ⟨p, q, hA0, hV, rfl, hfz, hnd⟩ := hW
  have hA : DataW.TrodAll enc Try.prog W 0 (fun _ => true) true Try.f33.params.toList args.toList ds p := hA0
  rw [Try.params33] at hA hval
  obtain ⟨v0, vs0, d0, ds0, p0, q0, hargs, rfl, rfl, h0, r0⟩ := trodAll_cons hA
  obtain ⟨v1, vs1, d1, ds1, p1, q1, rfl, rfl, rfl, h1, r1⟩ := trodAll_cons r0
  obtain ⟨rfl, rfl, rfl⟩ := trodAll_nil r1
  obtain rfl : args = #[v0, v1] := by cases args; simp_all
  obtain ⟨rfl, rfl⟩ := trodVars_none hV
  obtain ⟨x00, x01, e0, rfl, w0⟩ := open_schema (hval 0 93 v0 rfl rfl) h0
  obtain ⟨x10, x11, e1, rfl, w1⟩ := open_stats (hval 1 74 v1 rfl rfl) h1
  exact law_post laidOut Try.underlying4 rfl (by rw [Try.params33]; exact readables (by kernel_rfl) (by kernel_rfl)) rfl hW' rfl rfl rfl (fnExactStatsTotal_walk W x00 x01 e0 w0 x10 x11 e1 w1)

theorem facts : joinedFacts Try.prog 33 Try.f33 Rows.fnExactStatsTotalSpec Rows.fnExactStatsTotalRow = true := by
  unfold joinedFacts
  rw [mayEnter_yes, liftsFinal_no, make_cut]
  kernel_rfl

theorem over : Rows.fnExactStatsTotalRow.holds Try.pinned (OpenSpec.ofChange Rows.fnExactStatsTotalSpec) :=
  OpenClaim.holds_of_wide 33 Try.f33 rfl rfl rfl rfl rfl rfl rfl ⟨rfl, rfl, rfl, rfl, rfl⟩ rfl rfl rfl rfl rfl (by kernel_rfl) Try.func33 facts
    (of_decide_eq_true (by kernel_rfl)) (by unfold Func.isWrapper; first | (rw [if_pos (by decide +kernel)]; kernel_rfl) | (rw [if_neg (by decide +kernel)]; exact ⟨rfl, rfl⟩))
    (fun os started H enc _ => lifted os started H enc)

theorem proved : Rows.FnExactStatsTotalSaid :=
  over
#print axioms proved
end Go.Proofs.Ytnnhngdconbbfaa.fnExactStatsTotal
