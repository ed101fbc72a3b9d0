/-
  Words for memory: boxes of three cells.
-/
import Derived.Test.YtohodehmidbmlaaDoorAttr3
import Derived.Deep.RegionHeld3
namespace Go.Proofs.YtohodehmidbmlaaDoor
open Go.RowKit

/-- A box of three cells. -/
structure Box3 (w : World) (b : Nat) (x y z : Value) : Prop where
  c0 : w.cell? ⟨b, 0, none⟩ = some x
  c1 : w.cell? ⟨b, 1, none⟩ = some y
  c2 : w.cell? ⟨b, 2, none⟩ = some z
  lt : b < w.heap.size
theorem Box3.keep {w w' : World} {b : Nat} {x y z : Value} (h : Box3 w b x y z) (hb : Below w.heap.size w w') : Box3 w' b x y z :=
  ⟨(hb.cell (p := ⟨b, 0, none⟩) h.lt).trans h.c0, (hb.cell (p := ⟨b, 1, none⟩) h.lt).trans h.c1, (hb.cell (p := ⟨b, 2, none⟩) h.lt).trans h.c2, Nat.lt_of_lt_of_le h.lt hb.size⟩
theorem Box3.new (w : World) (x y z : Value) (t : TypeId) : Box3 (w.alloc (.cells #[x, y, z] t)) w.heap.size x y z := by
  refine ⟨?_, ?_, ?_, by simp⟩ <;> go_simp

/-- What a region holds: two boxes of three, and that it only grew. -/
def Held33 (w : World) (b1 b2 : Nat) (x0 x1 x2 y0 y1 y2 : Value) (W : World) : Prop :=
  W.cell? ⟨b1, 0, none⟩ = some x0 ∧ W.cell? ⟨b1, 1, none⟩ = some x1 ∧ W.cell? ⟨b1, 2, none⟩ = some x2 ∧ W.cell? ⟨b2, 0, none⟩ = some y0 ∧ W.cell? ⟨b2, 1, none⟩ = some y1 ∧ W.cell? ⟨b2, 2, none⟩ = some y2 ∧
    b1 < W.heap.size ∧ b2 < W.heap.size ∧ Below w.heap.size w W
theorem Held33.keep {w W W1 : World} {b1 b2 : Nat} {x0 x1 x2 y0 y1 y2 : Value} (hb : Below W.heap.size W W1) (h : Held33 w b1 b2 x0 x1 x2 y0 y1 y2 W) : Held33 w b1 b2 x0 x1 x2 y0 y1 y2 W1 := by
  obtain ⟨h0, h1, h2, h3, h4, h5, h6, h7, h8⟩ := h
  exact ⟨(hb.cell (p := ⟨b1, 0, none⟩) h6).trans h0, (hb.cell (p := ⟨b1, 1, none⟩) h6).trans h1, (hb.cell (p := ⟨b1, 2, none⟩) h6).trans h2, (hb.cell (p := ⟨b2, 0, none⟩) h7).trans h3, (hb.cell (p := ⟨b2, 1, none⟩) h7).trans h4, (hb.cell (p := ⟨b2, 2, none⟩) h7).trans h5,
    Nat.lt_of_lt_of_le h6 hb.size, Nat.lt_of_lt_of_le h7 hb.size, h8.trans (hb.mono h8.size)⟩
theorem Held33.drew {w W : World} {b1 b2 : Nat} {x0 x1 x2 y0 y1 y2 : Value} (h : Held33 w b1 b2 x0 x1 x2 y0 y1 y2 W) : Held33 w b1 b2 x0 x1 x2 y0 y1 y2 W.drew := Held33.keep (Below.refl _ _).drew h
theorem Held33.below {w W : World} {b1 b2 : Nat} {x0 x1 x2 y0 y1 y2 : Value} (h : Held33 w b1 b2 x0 x1 x2 y0 y1 y2 W) : Below w.heap.size w W := h.2.2.2.2.2.2.2.2
theorem Held33.of {w W : World} {b1 b2 : Nat} {x0 x1 x2 y0 y1 y2 : Value} (h1 : Box3 W b1 x0 x1 x2) (h2 : Box3 W b2 y0 y1 y2) (h : Below w.heap.size w W) : Held33 w b1 b2 x0 x1 x2 y0 y1 y2 W :=
  ⟨h1.c0, h1.c1, h1.c2, h2.c0, h2.c1, h2.c2, h1.lt, h2.lt, h⟩

end Go.Proofs.YtohodehmidbmlaaDoor
