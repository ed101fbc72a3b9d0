/-
  The head of the translation: the harness that its cards name.
-/
import Derived.Test.YtohodehmidbmlaaDoorHead
import Derived.Test.YtohodehmidbmlaaDoorCards
namespace Go.Proofs.YtohodehmidbmlaaDoor
set_option maxRecDepth 100000
theorem main_sum : isSumSigns (headB.map Char.ofNat) = true := by kernel_rfl
theorem main_harness : (headA.map Char.ofNat == "harness".toList) = true := by kernel_rfl
theorem main_of {P : Program} {rest : List (List Char)} (h : wordsSigns P.initOrder.toList = headA.map Char.ofNat :: headB.map Char.ofNat :: rest) : P.mainIs = some (true, headB.map Char.ofNat) := by
  unfold Program.mainIs
  rw [h]
  simp only [main_sum, main_harness, Bool.not_true, Bool.false_eq_true, if_false, if_true]
theorem main_word : Rows.fnExactDigitsCard.stood.harness = (true, String.ofList (headB.map Char.ofNat)) := by kernel_rfl
theorem main_is : Tryd.prog.mainIs = some (Rows.fnExactDigitsCard.stood.harness.1, Rows.fnExactDigitsCard.stood.harness.2.toList) := by
  rw [main_word, main_of head_words]
  simp only [String.toList_ofList]
end Go.Proofs.YtohodehmidbmlaaDoor
