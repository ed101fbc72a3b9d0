/-
  Proved: the law FnExactPutNum returns true for every input that the row speaks of, and every argument reads as before. No condition.
-/
import Derived.Test.YtnnhngdconbbfaaLawE
import Derived.Test.YtnnhngdconbbfaaOpen
import Derived.Test.YtnnhngdconbbfaaHead
namespace Go.Proofs.Ytnnhngdconbbfaa.fnExactPutNum
open Go.ChangeShapes Go.WideShapes Go.ChangeAt Go.RowKit
open Go.ChangeMaps (open_string)
set_option linter.unusedVariables false
set_option maxRecDepth 100000


theorem lifted (os : Os) (started : os.Started) (H : Type) (enc : TypeId × Value → H) :
    ReturnsInHanded {} Try.checked os 14 .any (Rows.fnExactPutNumSpec.pre6 enc Try.prog Try.f14 Rows.fnExactPutNumRow.domain false) (Rows.fnExactPutNumSpec.post enc Try.prog Try.f14 false true false false) := by
  refine returnsInHanded_of_change (C := Try.checked) own started (by kernel_rfl) Try.func14
    (ChangeSpec.witness6 (enc := enc) (C := Try.checked) false ⟨#[], #[.int .i64 0], []⟩ 8 (by kernel_rfl) (by kernel_rfl) (by kernel_rfl) (by kernel_rfl)) ?_
  intro W base args ds gs before hval0 hW hcnd _
  have hval : ∀ (j : Nat) t v, Try.f14.params[j]? = some t → args[j]? = some v → Value.okWide Try.prog W .any base t v := hval0
  have hW' := hW
  obtain ⟨p, q, hA0, hV, rfl, hfz, hnd⟩ := hW
  have hA : DataW.TrodAll enc Try.prog W 0 (fun _ => true) true Try.f14.params.toList args.toList ds p := hA0
  rw [Try.params14] at hA hval
  obtain ⟨v0, vs0, d0, ds0, p0, q0, hargs, rfl, rfl, h0, r0⟩ := trodAll_cons hA
  obtain ⟨rfl, rfl, rfl⟩ := trodAll_nil r0
  obtain rfl : args = #[v0] := by cases args; simp_all
  obtain ⟨rfl, rfl⟩ := trodVars_none hV
  obtain ⟨a0, rfl, -, -, w0⟩ := open_int Try.underlying3 (hval 0 3 v0 rfl rfl) h0
  exact law_post laidOut Try.underlying4 rfl (by rw [Try.params14]; exact readables (by kernel_rfl) (by kernel_rfl)) rfl hW' rfl rfl rfl (fnExactPutNum_walk W a0 w0)

theorem facts : joinedFacts Try.prog 14 Try.f14 Rows.fnExactPutNumSpec Rows.fnExactPutNumRow = true := by
  unfold joinedFacts
  rw [mayEnter_yes, liftsFinal_no, make_cut]
  kernel_rfl

theorem over : Rows.fnExactPutNumRow.holds Try.pinned (OpenSpec.ofChange Rows.fnExactPutNumSpec) :=
  OpenClaim.holds_of_wide 14 Try.f14 rfl rfl rfl rfl rfl rfl rfl ⟨rfl, rfl, rfl, rfl, rfl⟩ rfl rfl rfl rfl rfl (by kernel_rfl) Try.func14 facts
    (of_decide_eq_true (by kernel_rfl)) (by unfold Func.isWrapper; first | (rw [if_pos (by decide +kernel)]; kernel_rfl) | (rw [if_neg (by decide +kernel)]; exact ⟨rfl, rfl⟩))
    (fun os started H enc _ => lifted os started H enc)

theorem proved : Rows.FnExactPutNumSaid :=
  over
#print axioms proved
end Go.Proofs.Ytnnhngdconbbfaa.fnExactPutNum
