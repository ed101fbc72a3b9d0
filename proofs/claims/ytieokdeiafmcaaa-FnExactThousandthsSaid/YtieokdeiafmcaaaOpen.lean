/-
  Opening the arguments of the laws: from the row's reading to words for memory.
-/
import Derived.Test.YtieokdeiafmcaaaRows
import Derived.Test.YtieokdeiafmcaaaFrame
namespace Go.Proofs.Ytieokdeiafmcaaa
open Go.ChangeShapes Go.WideShapes Go.ChangeAt Go.RowKit Go.Deep Go.Joins
open Go.ChangeMaps (open_string)

theorem own : ownKnob Try.prog.godebug = none := by kernel_rfl
theorem laidOut : laidOutB Try.prog = true := by kernel_rfl
theorem readables {ts : List TypeId} (h1 : (ts.all fun t => Try.prog.readableRec t) = true) (h2 : (ts.all fun t => decide (t < Try.prog.types.size)) = true) : ∀ t ∈ ts, Try.prog.readableRec t = true ∧ t < Try.prog.types.size :=
  fun t ht => ⟨List.all_eq_true.1 h1 t ht, of_decide_eq_true (List.all_eq_true.1 h2 t ht)⟩
section
variable {H : Type} {enc : TypeId × Value → H} {w : World} {base b0 : Nat} {spare : Nat → Bool} {held : Bool} {r : Reach} {v : Value} {d : DataW H} {p : List MemPlace}

theorem cellsFrac : Try.prog.cellsOf 24 = 2 := by kernel_rfl
theorem open_frac (hv : Value.okWide Try.prog w r b0 24 v) (h : DataW.Trod enc Try.prog w base spare held 24 v d p) :
    ∃ a b : Int, v = .agg #[.int .i64 a, .int .i64 b] ∧ (Lit.int .i64 a).wf = true ∧ (Lit.int .i64 b).wf = true := by
  obtain ⟨c0, c1, y0, y1, m, rfl, rfl, rfl, hy0, hy1⟩ := open_agg2 Try.underlying24 (by kernel_rfl) cellsFrac hv h
  obtain ⟨a, e0, -, wa⟩ := DataW.trod_int Try.underlying3 hy0
  obtain ⟨b, e1, -, wb⟩ := DataW.trod_int Try.underlying3 hy1
  simp at e0 e1
  subst e0 e1
  exact ⟨a, b, rfl, wa, wb⟩
end
end Go.Proofs.Ytieokdeiafmcaaa
