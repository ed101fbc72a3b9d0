/-
  What a walk that makes an example holds. No function is walked here.
-/
import Derived.Test.YtjdncobdecdhmaaDraw
import Derived.Test.YtjdncobdecdhmaaAttrW
import Derived.Test.YtjdncobdecdhmaaMarkE
import Derived.Test.YtjdncobdecdhmaaApp
namespace Go.Proofs.Ytjdncobdecdhmaa
open Go.RowKit
set_option maxRecDepth 100000

theorem own_lower {w : World} {B B' : Nat} {e : TypeId} {sz n : Nat} {v : Value} {xs : List Value} (h : w.ownsRow B e sz v n xs) (hB : B' ≤ B) : w.ownsRow B' e sz v n xs := by
  obtain ⟨h1, h2⟩ := h
  refine ⟨h1, ?_⟩
  rcases h2 with h2 | ⟨g, cap, cur, e, hb, rest⟩
  · exact .inl h2
  · exact .inr ⟨g, cap, cur, e, Nat.le_trans hB hb, rest⟩
/-- The result's box r, the example's box x, its bins; what lies below w stays but for S, whose blocks are cursors. -/
structure EState (w : World) (S : Nat → Prop) (r x : Nat) (W : World) (G : Option Addr) (n k : Nat) (l : List Int) (cls : Int) : Prop where
  ord : w.heap.size ≤ r ∧ w.heap.size ≤ x ∧ r ≠ x
  low : ∀ j, S j → j < w.heap.size
  res : BoxW W r (.slice none 0 0) (.int .i64 0)
  box : BoxW W x (.slice G n k) (.int .i64 cls)
  own : W.ownsRow w.heap.size 3 1 (.slice G n k) n (l.map (Value.int .i64))
  ap : ∀ j, Value.ownBlock (.slice G n k) = some j → j ≠ x ∧ j ≠ r
  cur : ∀ j, S j → Cur W j
  only : Only S w W
section
variable {w W W2 : World} {S : Nat → Prop} {r x : Nat} {G : Option Addr} {n k : Nat} {l : List Int} {cls : Int}
theorem EState.draw (h : EState w S r x W G n k l cls) (hC : ∀ j, S j → Cur W2 j) (ho : Only S W W2) : EState w S r x W2 G n k l cls := by
  have ho' := h.ord
  exact ⟨h.ord, h.low, h.res.only ho (fun e => by have := h.low _ e; omega), h.box.only ho (fun e => by have := h.low _ e; omega), own_only h.own ho (fun j hj e => by have := h.low _ e; have := (h.own.lt j hj).1; omega), h.ap, hC, h.only.trans ho⟩
theorem EState.keep (h : EState w S r x W G n k l cls) (hb : Below W.heap.size W W2) : EState w S r x W2 G n k l cls :=
  ⟨h.ord, h.low, h.res.keep hb, h.box.keep hb, own_below h.own hb, h.ap, fun j hj => (h.cur j hj).keep hb, h.only.trans (Only.of_below hb)⟩
/-- What stays when the bins' row is written or laid anew. -/
theorem EState.turn {w9 : World} (h : EState w S r x W G n k l cls) (hb : Below w.heap.size W w9) (hg : W.grownBy w9 (Value.ownBlock (.slice G n k))) :
    BoxW w9 r (.slice none 0 0) (.int .i64 0) ∧ BoxW w9 x (.slice G n k) (.int .i64 cls) ∧ Only S w w9 ∧ ∀ j, S j → Cur w9 j := by
  have hs : Only (fun j => Value.ownBlock (.slice G n k) = some j) W w9 := Only.of_grown hg fun k hk => hk
  exact ⟨h.res.only hs (fun e => (h.ap _ e).2 rfl), h.box.only hs (fun e => (h.ap _ e).1 rfl), h.only.low hb, fun j hj => Cur.low (h.cur j hj) (h.low j hj) hb⟩
/-- One bin more. -/
theorem EState.item {w9 : World} {G' : Option Addr} {k' : Nat} {u : Int} (h : EState w S r x W G n k l cls) (hv : w9.ownsRow w.heap.size 3 1 (.slice G' (n + 1) k') (n + 1) (l.map (Value.int .i64) ++ [.int .i64 u])) (hb : Below w.heap.size W w9)
    (hg : W.grownBy w9 (Value.ownBlock (.slice G n k))) (hnew : ∀ g, Value.ownBlock (.slice G' (n + 1) k') = some g → Value.ownBlock (.slice G n k) = some g ∨ W.heap.size ≤ g) :
    EState w S r x (w9.setCell ⟨x, 0, none⟩ (.slice G' (n + 1) k')) G' (n + 1) k' (l ++ [u]) cls := by
  have ho' := h.ord
  have hr := h.res.lt
  have hx := h.box.lt
  obtain ⟨t1, t2, t3, t4⟩ := h.turn hb hg
  have hs := (Only.refl (fun j => x = j) w9).setCell (p := ⟨x, 0, none⟩) rfl (.slice G' (n + 1) k')
  have hlow : Below w.heap.size w9 (w9.setCell ⟨x, 0, none⟩ (.slice G' (n + 1) k')) := (Below.refl _ _).setCell (p := ⟨x, 0, none⟩) ho'.2.1 _
  have hap : ∀ g, Value.ownBlock (.slice G' (n + 1) k') = some g → g ≠ x ∧ g ≠ r := fun g hgg => by
    rcases hnew g hgg with q | q
    · exact h.ap g q
    · omega
  exact ⟨h.ord, h.low, t1.only hs (by show ¬ x = r; omega), t2.set0 _, own_only (by simpa using hv) hs (fun j hj e => (hap j hj).1 e.symm), hap, fun j hj => Cur.low (t4 j hj) (h.low j hj) hlow, t3.low hlow⟩
/-- One bin written. -/
theorem EState.elem {g : Nat} {i : Nat} {u : Int} (h : EState w S r x W G n k l cls) (hG : G = some ⟨g, 0, none⟩) (hst : (W.setCell ⟨g, i, none⟩ (.int .i64 u)).ownsRow w.heap.size 3 1 (.slice G n k) n ((l.set i u).map (Value.int .i64))) :
    EState w S r x (W.setCell ⟨g, i, none⟩ (.int .i64 u)) G n k (l.set i u) cls := by
  have hb : Value.ownBlock (.slice G n k) = some g := by rw [hG]; rfl
  have hgb := (h.own.lt g hb).1
  have hgx := h.ap g hb
  have hs := (Only.refl (fun j => g = j) W).setCell (p := ⟨g, i, none⟩) rfl (.int .i64 u)
  have hlow : Below w.heap.size W (W.setCell ⟨g, i, none⟩ (.int .i64 u)) := (Below.refl _ _).setCell (p := ⟨g, i, none⟩) hgb _
  exact ⟨h.ord, h.low, h.res.only hs hgx.2, h.box.only hs hgx.1, hst, h.ap, fun j hj => Cur.low (h.cur j hj) (h.low j hj) hlow, h.only.low hlow⟩
/-- The class written. -/
theorem EState.setCls (h : EState w S r x W G n k l cls) (u : Int) : EState w S r x (W.setCell ⟨x, 1, none⟩ (.int .i64 u)) G n k l u := by
  have ho' := h.ord
  have hs := (Only.refl (fun j => x = j) W).setCell (p := ⟨x, 1, none⟩) rfl (.int .i64 u)
  have hlow : Below w.heap.size W (W.setCell ⟨x, 1, none⟩ (.int .i64 u)) := (Below.refl _ _).setCell (p := ⟨x, 1, none⟩) ho'.2.1 _
  exact ⟨h.ord, h.low, h.res.only hs (by show ¬ x = r; omega), h.box.set1 _, own_only h.own hs (fun j hj e => (h.ap j hj).1 e.symm), h.ap, fun j hj => Cur.low (h.cur j hj) (h.low j hj) hlow, h.only.low hlow⟩
/-- The result written. -/
theorem EState.fin (h : EState w S r x W G n k l cls) (u0 u1 : Value) : ((W.setCell ⟨r, 0, none⟩ u0).setCell ⟨r, 1, none⟩ u1).ownsRow w.heap.size 3 1 (.slice G n k) n (l.map (Value.int .i64)) ∧
    (∀ j, S j → Cur ((W.setCell ⟨r, 0, none⟩ u0).setCell ⟨r, 1, none⟩ u1) j) ∧ Only S w ((W.setCell ⟨r, 0, none⟩ u0).setCell ⟨r, 1, none⟩ u1) := by
  have hs : Only (fun j => r = j) W ((W.setCell ⟨r, 0, none⟩ u0).setCell ⟨r, 1, none⟩ u1) := ((Only.refl _ W).setCell (p := ⟨r, 0, none⟩) rfl _).setCell (p := ⟨r, 1, none⟩) rfl _
  have hlow : Below w.heap.size W ((W.setCell ⟨r, 0, none⟩ u0).setCell ⟨r, 1, none⟩ u1) := ((Below.refl _ _).setCell (p := ⟨r, 0, none⟩) h.ord.1 _).setCell (p := ⟨r, 1, none⟩) h.ord.1 _
  exact ⟨own_only h.own hs (fun j hj e => (h.ap j hj).2 e.symm), fun j hj => Cur.low (h.cur j hj) (h.low j hj) hlow, h.only.low hlow⟩
end
end Go.Proofs.Ytjdncobdecdhmaa
