/-
  Parts put together again: the plain law. No program is walked here.
-/
import Derived.Test.YtohodehmidbmlaaDoorParts
namespace Go.Proofs.YtohodehmidbmlaaDoor
open Go.RowKit

def joinP (b : UInt8) : List ByteArray → List UInt8
  | [] => []
  | x :: t => x.data.toList ++ t.flatMap fun y => b :: y.data.toList
theorem joinP_snoc {b : UInt8} {l : List ByteArray} {x : ByteArray} (h : 0 < l.length) : joinP b (l ++ [x]) = joinP b l ++ b :: x.data.toList := by
  match l, h with
  | y :: t, _ => simp [joinP]
theorem flat_shift (b : UInt8) (t : List ByteArray) (x : ByteArray) : (t ++ [x]).flatMap (fun y => b :: y.data.toList) = b :: ((t.flatMap fun y => y.data.toList ++ [b]) ++ x.data.toList) := by
  induction t with
  | nil => simp
  | cons y t ih => rw [List.cons_append, List.flatMap_cons, ih]; simp
theorem joinP_glue (b : UInt8) (t : List ByteArray) (x : ByteArray) : joinP b (t ++ [x]) = (t.flatMap fun y => y.data.toList ++ [b]) ++ x.data.toList := by
  match t with
  | [] => simp [joinP]
  | y :: t => rw [List.cons_append, joinP, flat_shift]; simp
theorem toList_extract (s : ByteArray) (i j : Nat) : (s.extract i j).data.toList = (s.data.toList.drop i).take (j - i) := by
  rw [ByteArray.data_extract, Array.toList_extract]
  first | done | simp [List.extract]
/-- No byte of p is b. -/
def noB (b : Int) (p : ByteArray) : Prop := ∀ j, j < p.size → ¬ ((p.data.toList[j]?.getD 0).toNat : Int) = b
theorem noB_part {s : ByteArray} {b : Int} {F i : Nat} (hi : i ≤ s.size) (h : ∀ j, F ≤ j → j < i → ¬ ((s.data.toList[j]?.getD 0).toNat : Int) = b) : noB b (s.extract F i) := by
  intro j hj
  have e : (s.extract F i).size = (s.extract F i).data.toList.length := rfl
  rw [e, toList_extract] at hj
  have hs : s.data.toList.length = s.size := rfl
  rw [List.length_take, List.length_drop, hs] at hj
  rw [toList_extract, List.getElem?_take_of_lt (by omega), List.getElem?_drop]
  exact h (F + j) (by omega) (by omega)
theorem partsTo_law (s : ByteArray) (b : Int) (hb : 0 ≤ b ∧ b < 256) : ∀ i, i ≤ s.size →
    (partsTo s b i).2 ≤ i ∧ (∀ p ∈ (partsTo s b i).1, noB b p) ∧ (∀ j, (partsTo s b i).2 ≤ j → j < i → ¬ ((s.data.toList[j]?.getD 0).toNat : Int) = b) ∧
      ((partsTo s b i).1.flatMap fun y => y.data.toList ++ [UInt8.ofNat b.toNat]) = s.data.toList.take (partsTo s b i).2
  | 0, _ => by simp [partsTo]
  | i + 1, hi => by
    obtain ⟨h1, h2, h3, h4⟩ := partsTo_law s b hb i (by omega)
    have hs : s.data.toList.length = s.size := rfl
    unfold partsTo
    split
    · rename_i e
      refine ⟨Nat.le_refl _, fun p hp => ?_, fun j hj hj' => by simp at hj; omega, ?_⟩
      · rcases List.mem_append.1 hp with hp | hp
        · exact h2 p hp
        · rw [List.mem_singleton] at hp
          subst hp
          exact noB_part (by omega) h3
      · simp only [List.flatMap_append, h4, List.flatMap_cons, List.flatMap_nil, List.append_nil, toList_extract]
        have hx : UInt8.ofNat b.toNat = s.data.toList[i]'(by omega) := by
          rw [List.getElem?_eq_getElem (by omega), Option.getD_some] at e
          rw [← e]; simp
        have ht : s.data.toList.take i = s.data.toList.take (partsTo s b i).2 ++ (s.data.toList.drop (partsTo s b i).2).take (i - (partsTo s b i).2) := by
          rw [← List.take_add]; congr 1; omega
        rw [hx, ← List.append_assoc, ← ht, ← List.take_succ_eq_append_getElem]
    · rename_i e
      refine ⟨by omega, h2, fun j hj hj' => ?_, h4⟩
      by_cases q : j = i
      · subst q; exact e
      · exact h3 j hj (by omega)
/-- The parts, with b between them, are the string again; none of them holds b. -/
theorem parts_law (s : ByteArray) (b : Int) (hb : 0 ≤ b ∧ b < 256) : (∀ p ∈ parts s b, noB b p) ∧ joinP (UInt8.ofNat b.toNat) (parts s b) = s.data.toList := by
  obtain ⟨h1, h2, h3, h4⟩ := partsTo_law s b hb s.size (Nat.le_refl _)
  have hs : s.data.toList.length = s.size := rfl
  refine ⟨fun p hp => ?_, ?_⟩
  · rw [parts] at hp
    rcases List.mem_append.1 hp with hp | hp
    · exact h2 p hp
    · rw [List.mem_singleton] at hp
      subst hp
      exact noB_part (Nat.le_refl _) h3
  · rw [parts, joinP_glue, h4, toList_extract, List.take_of_length_le (l := s.data.toList.drop _) (by rw [List.length_drop]; omega), List.take_append_drop]
end Go.Proofs.YtohodehmidbmlaaDoor
