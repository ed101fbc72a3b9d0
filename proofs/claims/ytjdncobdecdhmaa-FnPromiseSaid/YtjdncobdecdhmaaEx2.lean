/-
  Contracts: equal examples; boxes of two cells.
-/
import Derived.Test.YtjdncobdecdhmaaEx
namespace Go.Proofs.Ytjdncobdecdhmaa
open Go.RowKit

def exSameB (d e : ExD) : Bool := decide (d.bins = e.bins) && (d.cls == e.cls)

theorem run_store_of {P : Program} {v : Value} (W : World) (a : Addr) (m : Mode) (h : v.oneCell' = true) : (store a v m).run P W = stored P W a v m := run_store P W a v m h
theorem ExM.one {w : World} {x0 x1 : Value} {d : ExD} (h : ExM w x0 x1 d) : x0.oneCell' = true ∧ x1.oneCell' = true := by
  obtain ⟨A, n, c, rfl, rfl, _⟩ := h
  exact ⟨rfl, rfl⟩
/-- A box of two cells. -/
structure Box2 (w : World) (b : Nat) (x y : Value) : Prop where
  c0 : w.cell? ⟨b, 0, none⟩ = some x
  c1 : w.cell? ⟨b, 1, none⟩ = some y
  lt : b < w.heap.size
theorem Box2.keep {w w' : World} {b : Nat} {x y : Value} (h : Box2 w b x y) (hb : Below w.heap.size w w') : Box2 w' b x y :=
  ⟨(hb.cell (p := ⟨b, 0, none⟩) h.lt).trans h.c0, (hb.cell (p := ⟨b, 1, none⟩) h.lt).trans h.c1, Nat.lt_of_lt_of_le h.lt hb.size⟩
theorem Box2.new (w : World) (x y : Value) (t : TypeId) : Box2 (w.alloc (.cells #[x, y] t)) w.heap.size x y := by
  refine ⟨?_, ?_, by simp⟩ <;> go_simp
/-- What a region holds: two boxes of two, and that it only grew. -/
def Held22 (w : World) (b1 b2 : Nat) (x0 x1 y0 y1 : Value) (W : World) : Prop :=
  W.cell? ⟨b1, 0, none⟩ = some x0 ∧ W.cell? ⟨b1, 1, none⟩ = some x1 ∧ W.cell? ⟨b2, 0, none⟩ = some y0 ∧ W.cell? ⟨b2, 1, none⟩ = some y1 ∧ b1 < W.heap.size ∧ b2 < W.heap.size ∧ Below w.heap.size w W
theorem Held22.keep {w W W1 : World} {b1 b2 : Nat} {x0 x1 y0 y1 : Value} (hb : Below W.heap.size W W1) (h : Held22 w b1 b2 x0 x1 y0 y1 W) : Held22 w b1 b2 x0 x1 y0 y1 W1 := by
  obtain ⟨h0, h1, h3, h4, h6, h7, h8⟩ := h
  exact ⟨(hb.cell (p := ⟨b1, 0, none⟩) h6).trans h0, (hb.cell (p := ⟨b1, 1, none⟩) h6).trans h1, (hb.cell (p := ⟨b2, 0, none⟩) h7).trans h3, (hb.cell (p := ⟨b2, 1, none⟩) h7).trans h4,
    Nat.lt_of_lt_of_le h6 hb.size, Nat.lt_of_lt_of_le h7 hb.size, h8.trans (hb.mono h8.size)⟩
theorem Held22.drew {w W : World} {b1 b2 : Nat} {x0 x1 y0 y1 : Value} (h : Held22 w b1 b2 x0 x1 y0 y1 W) : Held22 w b1 b2 x0 x1 y0 y1 W.drew := Held22.keep (Below.refl _ _).drew h
theorem Held22.below {w W : World} {b1 b2 : Nat} {x0 x1 y0 y1 : Value} (h : Held22 w b1 b2 x0 x1 y0 y1 W) : Below w.heap.size w W := h.2.2.2.2.2.2
theorem Held22.of {w W : World} {b1 b2 : Nat} {x0 x1 y0 y1 : Value} (h1 : Box2 W b1 x0 x1) (h2 : Box2 W b2 y0 y1) (h : Below w.heap.size w W) : Held22 w b1 b2 x0 x1 y0 y1 W :=
  ⟨h1.c0, h1.c1, h2.c0, h2.c1, h1.lt, h2.lt, h⟩
end Go.Proofs.Ytjdncobdecdhmaa
