/-
  Contracts: examples.
-/
import Derived.Test.YtjdncobdecdhmaaAttr3
import Derived.Test.YtjdncobdecdhmaaLib
import Derived.Deep.RegionHeld3
namespace Go.Proofs.Ytjdncobdecdhmaa
open Go.ChangeShapes Go.WideShapes Go.ChangeAt Go.RowKit Go.Deep Go.Joins
set_option maxRecDepth 100000

structure ExD where
  bins : List Int
  cls : Int
def wEx (e : ExD) : Nat := e.bins.length
def ExI (w : World) (x0 x1 : Value) (d : ExD) : Prop := ∃ A n c, x0 = .slice A n c ∧ x1 = .int .i64 d.cls ∧ Ints w A n d.bins ∧ n ≤ maxLen ∧ (Lit.int .i64 d.cls).wf = true
def ExM (w : World) (x0 x1 : Value) (d : ExD) : Prop := ∃ A n c, x0 = .slice A n c ∧ x1 = .int .i64 d.cls ∧ Ints w A n d.bins ∧ n ≤ 1048576 ∧ (Lit.int .i64 d.cls).wf = true
theorem ExI.keep {w w' : World} {x0 x1 : Value} {d : ExD} (h : ExI w x0 x1 d) (hb : Below w.heap.size w w') : ExI w' x0 x1 d := by
  obtain ⟨A, n, c, h1, h2, h3, h4, h5⟩ := h
  exact ⟨A, n, c, h1, h2, h3.keep hb, h4, h5⟩
theorem ExM.keep {w w' : World} {x0 x1 : Value} {d : ExD} (h : ExM w x0 x1 d) (hb : Below w.heap.size w w') : ExM w' x0 x1 d := by
  obtain ⟨A, n, c, h1, h2, h3, h4, h5⟩ := h
  exact ⟨A, n, c, h1, h2, h3.keep hb, h4, h5⟩
theorem ExI.small {w : World} {x0 x1 : Value} {d : ExD} (h : ExI w x0 x1 d) (hw : wEx d ≤ 1048576) : ExM w x0 x1 d := by
  obtain ⟨A, n, c, h1, h2, h3, h4, h5⟩ := h
  have := h3.1
  unfold wEx at hw
  exact ⟨A, n, c, h1, h2, h3, by omega, h5⟩

section
variable {H : Type} {enc : TypeId × Value → H} {w : World} {base : Nat} {spare : Nat → Bool} {held : Bool}

end

end Go.Proofs.Ytjdncobdecdhmaa
