/-
  Numbers and texts as bytes, read as they were written: the plain law. No program is walked here.
-/
import Derived.Test.YtohodehmidbmlaaDoorGet2
import Derived.Test.YtohodehmidbmlaaDoorPut
import Derived.Test.YtohodehmidbmlaaDoorJoin
namespace Go.Proofs.YtohodehmidbmlaaDoor
open Go.RowKit

theorem pow_step7 (k : Nat) : 2 ^ (7 * (k + 1)) = 128 * 2 ^ (7 * k) := by
  rw [show 7 * (k + 1) = 7 + 7 * k by omega, Nat.pow_add]
theorem getN_var (l : List UInt8) (a : Nat) : ∀ (f k n m : Nat), (∀ j, j < (varB m).length → l[a + k + j]? = (varB m)[j]?) → (varB m).length ≤ f → (0 < k → 0 < m) → n + m * 2 ^ (7 * k) ≤ 2147483647 →
    getN l a f k n = some (n + m * 2 ^ (7 * k), a + k + (varB m).length)
  | 0, k, n, m, _, hf, _, _ => by
    exfalso
    by_cases h : m < 128
    · rw [varB_low h] at hf; simp at hf
    · rw [varB_high h] at hf; simp at hf
  | f + 1, k, n, m, hl, hf, hk, hb => by
    by_cases h : m < 128
    · rw [varB_low h] at hl ⊢
      have h0 := hl 0 (by simp)
      simp only [Nat.add_zero, List.getElem?_cons_zero] at h0
      obtain ⟨hlt, -⟩ := List.getElem?_eq_some_iff.1 h0
      have e : (UInt8.ofNat m).toNat = m := by simp; omega
      have hm : m % 128 = m := Nat.mod_eq_of_lt h
      unfold getN
      rw [if_pos hlt, h0, Option.getD_some, e, if_neg (by omega), hm, if_neg]
      · simp
      · rintro (⟨h1, h2⟩ | h1)
        · have := hk h2; omega
        · omega
    · rw [varB_high h] at hl hf ⊢
      have h0 := hl 0 (by simp)
      simp only [Nat.add_zero, List.getElem?_cons_zero] at h0
      obtain ⟨hlt, -⟩ := List.getElem?_eq_some_iff.1 h0
      have e : (UInt8.ofNat (m % 128 + 128)).toNat = m % 128 + 128 := by simp; omega
      have hm : (m % 128 + 128) % 128 = m % 128 := by omega
      have hs : n + m % 128 * 2 ^ (7 * k) + m / 128 * 2 ^ (7 * (k + 1)) = n + m * 2 ^ (7 * k) := by
        rw [pow_step7, ← Nat.mul_assoc, Nat.add_assoc, ← Nat.add_mul]
        congr 2
        omega
      have ih := getN_var l a f (k + 1) (n + m % 128 * 2 ^ (7 * k)) (m / 128) (fun j hj => by
        have := hl (j + 1) (by simpa using hj)
        rw [List.getElem?_cons_succ] at this
        rw [← this]
        congr 1
        omega) (by simpa using hf) (fun _ => by omega) (by rw [hs]; exact hb)
      unfold getN
      rw [if_pos hlt, h0, Option.getD_some, e, if_pos (by omega), hm, ih, hs]
      simp only [List.length_cons, Option.some.injEq, Prod.mk.injEq, true_and]
      omega
/-- A number written at any place is read there. -/
theorem getD_put (p q : List UInt8) (n : Int) (h0 : 0 ≤ n) (h1 : n ≤ 2147483647) : getD (p ++ putB n ++ q) p.length = some (n.toNat, p.length + (putB n).length) := by
  have e : putB n = varB n.toNat := by unfold putB; rw [if_pos (inB_iff.2 ⟨h0, h1⟩)]
  have := getN_var (p ++ putB n ++ q) p.length 5 0 0 n.toNat (fun j hj => by
    rw [e, List.getElem?_append_left (by simp; omega), List.getElem?_append_right (by omega)]
    congr 1
    omega) (varB_len5 (by omega)) (by omega) (by simp; omega)
  unfold getD
  rw [if_neg (by omega), Int.toNat_natCast, this, e]
  simp
theorem getT_put (s : ByteArray) (q : List UInt8) (h : s.size ≤ 1048576) : getT (putT s ++ q) 0 = some (s, (putT s).length) := by
  have hz : s.data.toList.length = s.size := rfl
  have := getD_put [] (s.data.toList ++ q) s.size (by omega) (by omega)
  simp only [List.nil_append, List.length_nil, Nat.zero_add] at this
  unfold getT putT
  rw [List.append_assoc, show (0 : Int) = ((0 : Nat) : Int) from rfl, this]
  simp only [Int.toNat_natCast]
  rw [if_pos (by simp only [List.length_append]; omega), List.drop_left]
  simp only [Option.some.injEq, Prod.mk.injEq, List.length_append]
  refine ⟨bytes_ext ?_, by omega⟩
  show (List.take s.size (s.data.toList ++ q)) = s.data.toList
  rw [← hz, List.take_left]
end Go.Proofs.YtohodehmidbmlaaDoor
