/-
  Contracts: examples marked.
-/
import Derived.Test.YtjdncobdecdhmaaEx
import Derived.Test.YtjdncobdecdhmaaAttrW
import Derived.Test.YtjdncobdecdhmaaInts
namespace Go.Proofs.Ytjdncobdecdhmaa
open Go.RowKit
set_option maxRecDepth 100000

/-- An example that owns its bins. -/
def ExO (B H : Nat) (w : World) (x0 x1 : Value) (d : ExD) : Prop := ∃ A n c, x0 = .slice A n c ∧ x1 = .int .i64 d.cls ∧ w.ownsRow B 3 1 (.slice A n c) n (d.bins.map (Value.int .i64)) ∧ n ≤ 1048576 ∧
  (∀ k, Value.ownBlock (.slice A n c) = some k → k < H) ∧ (Lit.int .i64 d.cls).wf = true
theorem ExO.m {B H : Nat} {w : World} {x0 x1 : Value} {d : ExD} (h : ExO B H w x0 x1 d) : ExM w x0 x1 d := by
  obtain ⟨A, n, c, h1, h2, h3, h4, h5, h6⟩ := h
  exact ⟨A, n, c, h1, h2, ints_of h3, h4, h6⟩
theorem ExO.only {S : Nat → Prop} {B H : Nat} {w w' : World} {x0 x1 : Value} {d : ExD} (h : ExO B H w x0 x1 d) (ho : Only S w w') (hs : ∀ k, S k → k < B ∨ H ≤ k) : ExO B H w' x0 x1 d := by
  obtain ⟨A, n, c, h1, h2, h3, h4, h5, h6⟩ := h
  exact ⟨A, n, c, h1, h2, own_only h3 ho (fun k hk hS => by have := (h3.lt k hk).1; have := h5 k hk; have := hs k hS; omega), h4, h5, h6⟩
theorem ExO.below {B H : Nat} {w w' : World} {x0 x1 : Value} {d : ExD} (h : ExO B H w x0 x1 d) (hb : Below w.heap.size w w') : ExO B H w' x0 x1 d := by
  obtain ⟨A, n, c, h1, h2, h3, h4, h5, h6⟩ := h
  exact ⟨A, n, c, h1, h2, own_below h3 hb, h4, h5, h6⟩
theorem ExO.one {B H : Nat} {w : World} {x0 x1 : Value} {d : ExD} (h : ExO B H w x0 x1 d) : x0.oneCell' = true ∧ x1.oneCell' = true := by
  obtain ⟨A, n, c, rfl, rfl, h3⟩ := h
  exact ⟨rfl, rfl⟩
def markExD (k0 : Int) (d : ExD) : ExD := ⟨marksI k0 d.bins.length, d.cls⟩

end Go.Proofs.Ytjdncobdecdhmaa
