/-
  Sorting: the plain law. No program is walked here.
-/
import Derived.Test.YtjdncobdecdhmaaMem
namespace Go.Proofs.Ytjdncobdecdhmaa
open Go.RowKit

def up (l : List Int) : Prop := l.Pairwise fun a b => a ≤ b
/-- The sorted list. -/
def sortI (l : List Int) : List Int := l.mergeSort fun x y => decide (x ≤ y)
theorem sortI_len (l : List Int) : (sortI l).length = l.length := List.length_mergeSort l
theorem sortI_perm (l : List Int) : (sortI l).Perm l := List.mergeSort_perm l _
theorem sortI_up (l : List Int) : up (sortI l) := by
  have h := List.pairwise_mergeSort (le := fun (x y : Int) => decide (x ≤ y)) (fun a b c h1 h2 => by simp only [decide_eq_true_eq] at *; omega) (fun a b => by simp only [Bool.or_eq_true, decide_eq_true_eq]; omega) l
  exact h.imp fun {a b} h => by simpa using h
theorem sortI_of {l r : List Int} (h : up r) (p : r.Perm l) : r = sortI l :=
  List.Perm.eq_of_pairwise (le := fun a b => a ≤ b) (fun a b _ _ h1 h2 => by omega) h (sortI_up l) (p.trans (sortI_perm l).symm)
/-- x put at its place. -/
def insAt (L : List Int) (x : Int) (k : Nat) : List Int := L.take k ++ [x] ++ L.drop k
theorem insAt_len {L : List Int} {x : Int} {k : Nat} : (insAt L x k).length = L.length + 1 := by simp [insAt]; omega
theorem insAt_up {L : List Int} {x : Int} {k : Nat} (hL : up L) (h1 : ∀ y ∈ L.drop k, x < y) (h2 : ∀ y ∈ L.take k, y ≤ x) : up (insAt L x k) := by
  have hd : up (L.drop k) := List.Pairwise.sublist (List.drop_sublist k L) hL
  have ht : up (L.take k) := List.Pairwise.sublist (List.take_sublist k L) hL
  unfold insAt up
  rw [List.append_assoc, List.pairwise_append]
  refine ⟨ht, ?_, fun a ha b hb => ?_⟩
  · rw [List.singleton_append, List.pairwise_cons]
    exact ⟨fun y hy => by have := h1 y hy; omega, hd⟩
  · rw [List.singleton_append, List.mem_cons] at hb
    have h3 := h2 a ha
    rcases hb with rfl | hb
    · exact h3
    · have := h1 b hb; omega
theorem insAt_perm {L : List Int} {x : Int} {k : Nat} : (insAt L x k).Perm (L ++ [x]) := by
  have h : (insAt L x k).Perm (x :: (L.take k ++ L.drop k)) := by
    unfold insAt
    rw [List.append_assoc, List.singleton_append]
    exact List.perm_middle
  rw [List.take_append_drop] at h
  exact h.trans (List.perm_append_comm (l₁ := [x]) (l₂ := L))
/-- What stands ahead of a place whose last is at most x. -/
theorem up_ahead {L : List Int} {x : Int} {k : Nat} (hL : up L) (hk : k ≤ L.length) (h : k = 0 ∨ L[k - 1]?.getD 0 ≤ x) : ∀ y ∈ L.take k, y ≤ x := by
  intro y hy
  rw [List.mem_take_iff_getElem] at hy
  obtain ⟨j, hj, rfl⟩ := hy
  rcases h with rfl | h
  · omega
  · rw [List.getElem?_eq_getElem (by omega), Option.getD_some] at h
    by_cases e : j = k - 1
    · subst e; exact h
    · have := (List.pairwise_iff_getElem.1 hL) j (k - 1) (by omega) (by omega) (by omega)
      omega
theorem above_step {L : List Int} {x : Int} {k : Nat} (hk : k + 1 ≤ L.length) (h : ∀ y ∈ L.drop (k + 1), x < y) (hx : x < L[k]?.getD 0) : ∀ y ∈ L.drop k, x < y := by
  intro y hy
  rw [List.drop_eq_getElem_cons (by omega), List.mem_cons] at hy
  rw [List.getElem?_eq_getElem (by omega), Option.getD_some] at hx
  rcases hy with rfl | hy
  · exact hx
  · exact h y hy
end Go.Proofs.Ytjdncobdecdhmaa
