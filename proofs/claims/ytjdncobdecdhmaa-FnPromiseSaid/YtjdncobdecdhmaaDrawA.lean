/-
  Contracts: drawn parts.
-/
import Derived.Test.YtjdncobdecdhmaaDraw
namespace Go.Proofs.Ytjdncobdecdhmaa
open Go.RowKit
set_option maxRecDepth 100000

/-- A literal list of strings, of numbers. -/
theorem strs_lit (W : World) (l : List ByteArray) (t : TypeId) : Strs (W.alloc (.cells (l.map Value.string).toArray t)) (some ⟨W.heap.size, 0, none⟩) l.length l := by
  refine ⟨rfl, fun h => ⟨_, rfl, by simp, fun i hi => ⟨[.string l[i]], rfl, rfl, fun j u hu => ?_⟩⟩⟩
  rcases j with _ | j
  · simp only [List.getElem?_cons_zero, Option.some.injEq] at hu
    subst hu
    have e : (⟨W.heap.size, 0, none⟩ : Addr).add (i * 1 + 0) = ⟨W.heap.size, i, none⟩ := by unfold Addr.add; split <;> simp_all
    rw [e, cell_of_row _ W.heap.size i (l.map Value.string).toArray t (0, 0) (heap_alloc_new W _)]
    simp [hi]
  · simp at hu
theorem ints_lit (W : World) (l : List Int) (t : TypeId) : Ints (W.alloc (.cells (l.map (Value.int .i64)).toArray t)) (some ⟨W.heap.size, 0, none⟩) l.length l := by
  refine ⟨rfl, fun h => ⟨_, rfl, by simp, fun i hi => ⟨[.int .i64 l[i]], rfl, rfl, fun j u hu => ?_⟩⟩⟩
  rcases j with _ | j
  · simp only [List.getElem?_cons_zero, Option.some.injEq] at hu
    subst hu
    have e : (⟨W.heap.size, 0, none⟩ : Addr).add (i * 1 + 0) = ⟨W.heap.size, i, none⟩ := by unfold Addr.add; split <;> simp_all
    rw [e, cell_of_row _ W.heap.size i (l.map (Value.int .i64)).toArray t (0, 0) (heap_alloc_new W _)]
    simp [hi]
  · simp at hu
theorem lit_apart {W : World} {b : Nat} (h : Cur W b) : ∀ a, some (⟨W.heap.size, 0, none⟩ : Addr) = some a → a.block ≠ b := by
  intro a e
  obtain ⟨_, _, _, _, _, _, _, _, _, _, _, hlt, _⟩ := h
  obtain rfl := Option.some.inj e
  show W.heap.size ≠ b
  omega

def partsL : List ByteArray := [⟨#[]⟩, ⟨#[97]⟩, ⟨#[97, 44, 98]⟩, ⟨#[44]⟩, ⟨#[97, 44, 44, 98, 44]⟩, ⟨#[97, 47, 98, 44, 99, 47]⟩]
theorem partsL_size : ∀ k, k < 6 → (partsL[k]?.getD ByteArray.empty).size ≤ 6 := by decide

set_option maxHeartbeats 4000000 in
theorem drawParts_any (A : Option Addr) (n c : Nat) (l : List UInt8) (w : World) (hl : Bytes w A n l) (hn : n ≤ 1048576) :
    Calls Try.prog 10 #[.slice A n c] w fun e w' => ∃ (s : ByteArray) (X : UInt8), e = .returned (.tuple #[.string s, .int .u8 X.toNat]) ∧ s.size ≤ 6 ∧ Below w.heap.size w w' := by
  have HL := hide hl
  clear hl
  go_enter Try.func10, Try.ntmps10
  go_wp2_with (fail)
  refine (l1New_any A n c l _ HL.out hn).mono ?_
  rintro e w1 ⟨b, rfl, hb, hC, hB⟩
  have HC := hide hC
  clear hC
  go_wp2_with (fail)
  refine (l1Pick_any b (some ⟨w1.heap.size, 0, none⟩) 6 6 partsL _ (HC.out.keep ((Below.refl _ _).alloc (Nat.le_refl _) _)) (strs_lit w1 partsL _) (fun _ => lit_apart HC.out) (by omega) (by omega)).mono ?_
  rintro e w2 ⟨k, hk, rfl, hC2, ho2⟩
  have HC2 := hide hC2
  clear hC2
  have hB2 := Only.below (hB.alloc (by have := hB.size; omega) _) (by have := hB.size; simp; omega) ho2 (fun j hj => by omega)
  clear ho2
  have hs := partsL_size k hk
  generalize partsL[k]?.getD ByteArray.empty = s at *
  go_wp2_with (fail)
  refine (l1PickInt_any b (some ⟨w2.heap.size, 0, none⟩) 2 2 [44, 47] _ (HC2.out.keep ((Below.refl _ _).alloc (Nat.le_refl _) _)) (ints_lit w2 [44, 47] _) (fun _ => lit_apart HC2.out) (by omega) (by omega)).mono ?_
  rintro e w3 ⟨j, hj, rfl, hC3, ho3⟩
  have hB3 := Only.below (hB2.alloc (by have := hB2.size; omega) _) (by have := hB2.size; simp; omega) ho3 (fun j hj => by omega)
  clear ho3 hC3
  obtain ⟨X, hX⟩ : ∃ X : UInt8, ([44, 47] : List Int)[j]?.getD 0 = (X.toNat : Int) := by
    rcases j with _ | _ | j
    · exact ⟨44, rfl⟩
    · exact ⟨47, rfl⟩
    · omega
  rw [hX]
  go_wp2
  exact bodyPost_ret (results_tmp2 rfl _ _ _) rfl ⟨s, X, by rw [show ((X.toNat : Int) % 256) = X.toNat from by have := X.toNat_lt; omega]; rfl, hs, hB3⟩
end Go.Proofs.Ytjdncobdecdhmaa
