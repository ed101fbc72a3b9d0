/-
  The listed variables: what the row's condition gives the walks, and a start that meets it.
-/
import Derived.Test.YtohodehmidbmlaaDoorRows
import Derived.Test.YtohodehmidbmlaaDoorFrame
import Derived.LaidMore
import Derived.LaidLaws
import Derived.Stop.LaidErr
import Derived.Lib.LaidTab
import Derived.Lib.ItoaMem
import Derived.WalkSmall
namespace Go.Proofs.YtohodehmidbmlaaDoor
open Go.ChangeShapes Go.WideShapes Go.ChangeAt Go.RowKit
set_option maxRecDepth 100000

noncomputable abbrev laid3 : List (String × DataW Unit) := Rows.fnExactDigitsRow.laid
noncomputable abbrev laid5 : List (String × DataW Unit) := Rows.fnExactRowOfRow.laid
abbrev powName : String := Rows.fnExactDigitsRow.named.headD default
/-- The table of powers lies as the text lays it. -/
def TabW (w : World) : Prop := Lib.TabIs Tryd.prog w powName .u64 Lib.pow10Tab
theorem pow_global : Tryd.prog.globalNamed powName = some 1 := by kernel_rfl
theorem pow_type : (Tryd.prog.globals[1]?).map (·.type) = some 170 := by kernel_rfl
theorem pow_data : (Rows.laid_internal_strconv_uint64pow10 : DataW Unit) = Lib.tabData .u64 Lib.pow10Tab := by kernel_rfl
theorem TabW.keep {w w' : World} (h : TabW w) (hb : Below w.heap.size w w') : TabW w' := by
  have hlt : 1 < w.heap.size := World.block_lt_of_cell? w ⟨1, 0, none⟩ (Lib.TabIs.cell h pow_global 0 (by decide))
  exact var?_below hb pow_global hlt h
theorem tab_of {rest : List (String × DataW Unit)} {a b : String × DataW Unit} {W : World} (h : laidMet Tryd.prog (a :: b :: (powName, Rows.laid_internal_strconv_uint64pow10) :: rest) W) : TabW W := by
  have h2 := h.tail.tail
  rw [pow_data] at h2
  exact Lib.tabIs_of_head pow_global pow_type Tryd.underlying170 Tryd.underlying155 (by kernel_rfl) (by kernel_rfl) h2
theorem tab_of3 {W : World} (h : laidMetH Tryd.prog laid3 W) : TabW W := by
  rw [MakeChecks.laidMetH_plain _ _ _ (by kernel_rfl)] at h
  exact tab_of h
theorem tab_of5 {W : World} (h : laidMetH Tryd.prog laid5 W) : TabW W := by
  rw [MakeChecks.laidMetH_plain _ _ _ (by kernel_rfl)] at h
  exact tab_of h
theorem door_met3 (os : Os) (args : Array Value) : laidMetH Tryd.prog laid3 ((World.doorLaid Tryd.prog 400 os).forCall (fun _ _ => 0) ⟨#[], args, []⟩).memory := by
  rw [MakeChecks.laidMetH_plain _ _ _ (by kernel_rfl)]
  exact laidMet_of_run' 8 (by kernel_rfl) (by kernel_rfl)
theorem door_met5 (os : Os) (args : Array Value) : laidMetH Tryd.prog laid5 ((World.doorLaid Tryd.prog 400 os).forCall (fun _ _ => 0) ⟨#[], args, []⟩).memory := by
  rw [MakeChecks.laidMetH_plain _ _ _ (by kernel_rfl)]
  exact laidMet_of_run' 8 (by kernel_rfl) (by kernel_rfl)
theorem door_shaped (os : Os) (args : Array Value) : ((World.doorLaid Tryd.prog 400 os).forCall (fun _ _ => 0) ⟨#[], args, []⟩).Shaped Tryd.prog := World.shaped_of_RefB (by kernel_rfl) (by kernel_rfl)
end Go.Proofs.YtohodehmidbmlaaDoor
