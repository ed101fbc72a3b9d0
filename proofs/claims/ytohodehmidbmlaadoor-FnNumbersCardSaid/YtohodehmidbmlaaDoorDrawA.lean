/-
  Contracts: drawn parts.
-/
import Derived.Test.YtohodehmidbmlaaDoorDraw
namespace Go.Proofs.YtohodehmidbmlaaDoor
open Go.RowKit
set_option maxRecDepth 100000

/-- A literal list of strings, of numbers. -/
theorem strs_lit (W : World) (l : List ByteArray) (t : TypeId) : Strs (W.alloc (.cells (l.map Value.string).toArray t)) (some ⟨W.heap.size, 0, none⟩) l.length l := by
  refine ⟨rfl, fun h => ⟨_, rfl, by simp, fun i hi => ⟨[.string l[i]], rfl, rfl, fun j u hu => ?_⟩⟩⟩
  rcases j with _ | j
  · simp only [List.getElem?_cons_zero, Option.some.injEq] at hu
    subst hu
    have e : (⟨W.heap.size, 0, none⟩ : Addr).add (i * 1 + 0) = ⟨W.heap.size, i, none⟩ := by unfold Addr.add; split <;> simp_all
    rw [e, cell_of_row _ W.heap.size i (l.map Value.string).toArray t (0, 0) (heap_alloc_new W _)]
    simp [hi]
  · simp at hu
theorem ints_lit (W : World) (l : List Int) (t : TypeId) : Ints (W.alloc (.cells (l.map (Value.int .i64)).toArray t)) (some ⟨W.heap.size, 0, none⟩) l.length l := by
  refine ⟨rfl, fun h => ⟨_, rfl, by simp, fun i hi => ⟨[.int .i64 l[i]], rfl, rfl, fun j u hu => ?_⟩⟩⟩
  rcases j with _ | j
  · simp only [List.getElem?_cons_zero, Option.some.injEq] at hu
    subst hu
    have e : (⟨W.heap.size, 0, none⟩ : Addr).add (i * 1 + 0) = ⟨W.heap.size, i, none⟩ := by unfold Addr.add; split <;> simp_all
    rw [e, cell_of_row _ W.heap.size i (l.map (Value.int .i64)).toArray t (0, 0) (heap_alloc_new W _)]
    simp [hi]
  · simp at hu
theorem lit_apart {W : World} {b : Nat} (h : Cur W b) : ∀ a, some (⟨W.heap.size, 0, none⟩ : Addr) = some a → a.block ≠ b := by
  intro a e
  obtain ⟨_, _, _, _, _, _, _, _, _, _, _, hlt, _⟩ := h
  obtain rfl := Option.some.inj e
  show W.heap.size ≠ b
  omega

def partsL : List ByteArray := [⟨#[]⟩, ⟨#[97]⟩, ⟨#[97, 44, 98]⟩, ⟨#[44]⟩, ⟨#[97, 44, 44, 98, 44]⟩, ⟨#[97, 47, 98, 44, 99, 47]⟩]
theorem partsL_size : ∀ k, k < 6 → (partsL[k]?.getD ByteArray.empty).size ≤ 6 := by decide

end Go.Proofs.YtohodehmidbmlaaDoor
