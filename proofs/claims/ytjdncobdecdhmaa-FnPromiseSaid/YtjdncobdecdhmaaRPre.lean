/-
  What a walk that makes an example begins with. No function is walked here.
-/
import Derived.Test.YtjdncobdecdhmaaEState
namespace Go.Proofs.Ytjdncobdecdhmaa
open Go.RowKit
set_option maxRecDepth 100000

/-- The boxes of a walk that reads a row. -/
structure RPre (w : World) (s0 s1 : Value) (W0 W : World) : Prop where
  z : W0.heap.size = w.heap.size + 1
  b0 : Below w.heap.size w W0
  arg : BoxW W w.heap.size s0 s1
  res : BoxW W (w.heap.size + 1) (.slice none 0 0) (.int .i64 0)
  below : Below W0.heap.size W0 W
theorem RPre.keep {w W0 W W2 : World} {s0 s1 : Value} (h : RPre w s0 s1 W0 W) (hb : Below W.heap.size W W2) : RPre w s0 s1 W0 W2 :=
  ⟨h.z, h.b0, h.arg.keep hb, h.res.keep hb, bthen h.below hb⟩
theorem RPre.b {w W0 W : World} {s0 s1 : Value} (h : RPre w s0 s1 W0 W) : Below w.heap.size w W := bthen h.b0 h.below
theorem RPre.low {w W0 W : World} {s0 s1 : Value} (h : RPre w s0 s1 W0 W) (u0 u1 : Value) : Below w.heap.size w ((W.setCell ⟨w.heap.size + 1, 0, none⟩ u0).setCell ⟨w.heap.size + 1, 1, none⟩ u1) :=
  (h.b.setCell (p := ⟨w.heap.size + 1, 0, none⟩) (Nat.le_succ _) _).setCell (p := ⟨w.heap.size + 1, 1, none⟩) (Nat.le_succ _) _
theorem rpre_start (w : World) (s0 s1 : Value) (t1 t2 : TypeId) : RPre w s0 s1 (w.alloc (.cells #[s0, s1] t1)) ((w.alloc (.cells #[s0, s1] t1)).alloc (.cells #[.slice none 0 0, .int .i64 0] t2)) := by
  have hal : Below (w.alloc (.cells #[s0, s1] t1)).heap.size (w.alloc (.cells #[s0, s1] t1)) ((w.alloc (.cells #[s0, s1] t1)).alloc (.cells #[.slice none 0 0, .int .i64 0] t2)) := (Below.refl _ _).alloc (Nat.le_refl _) _
  have hz : (w.alloc (.cells #[s0, s1] t1)).heap.size = w.heap.size + 1 := by simp
  have hR := BoxW.new (w.alloc (.cells #[s0, s1] t1)) (.slice none 0 0) (.int .i64 0) t2
  rw [hz] at hR
  exact ⟨hz, (Below.refl _ _).alloc (Nat.le_refl _) _, (BoxW.new w s0 s1 t1).keep hal, hR, hal⟩
theorem estate_first {w W0 W : World} {s0 s1 : Value} (h : RPre w s0 s1 W0 W) (cls : Int) (t : TypeId) : EState W0 (fun _ => False) (w.heap.size + 1) W.heap.size (W.alloc (.cells #[.slice none 0 0, .int .i64 cls] t)) none 0 0 [] cls := by
  have hal : Below W.heap.size W (W.alloc (.cells #[.slice none 0 0, .int .i64 cls] t)) := (Below.refl _ _).alloc (Nat.le_refl _) _
  have h1 := h.res.lt
  have h2 := h.z
  have h3 := h.below.size
  exact ⟨⟨by omega, h3, by omega⟩, fun j hj => hj.elim, h.res.keep hal, BoxW.new _ _ _ _, World.ownsRow_nil _ _ _ _, (fun j hj => by cases hj), fun j hj => hj.elim, Only.of_below (bthen h.below hal)⟩
theorem estate_draw {w W0 W : World} {s0 s1 : Value} (h : RPre w s0 s1 W0 W) {b : Nat} (hC : Cur W0 b) (hb : b < W0.heap.size) (t : TypeId) : EState W0 (· = b) (w.heap.size + 1) W.heap.size (W.alloc (.cells #[.slice none 0 0, .int .i64 0] t)) none 0 0 [] 0 := by
  have hE := estate_first h 0 t
  have hal : Below W.heap.size W (W.alloc (.cells #[.slice none 0 0, .int .i64 0] t)) := (Below.refl _ _).alloc (Nat.le_refl _) _
  have hB := bthen h.below hal
  exact ⟨hE.ord, fun j hj => by subst hj; exact hb, hE.res, hE.box, hE.own, hE.ap, fun j hj => by subst hj; exact hC.keep hB, Only.of_below hB⟩
end Go.Proofs.Ytjdncobdecdhmaa
