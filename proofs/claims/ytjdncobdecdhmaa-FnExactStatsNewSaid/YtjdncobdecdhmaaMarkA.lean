/-
  Contracts: marks in schemas.
-/
import Derived.Test.YtjdncobdecdhmaaSchema4
namespace Go.Proofs.Ytjdncobdecdhmaa
open Go.RowKit
set_option maxRecDepth 100000

def cntAttr (a : AttrD) : Nat := 1 + a.cuts.length + a.vals.length
def lensA (ls : List AttrD) (K : Nat) : Nat := ((ls.take K).map cntAttr).sum
theorem lensA_step {ls : List AttrD} {K : Nat} (h : K < ls.length) : lensA ls (K + 1) = lensA ls K + cntAttr (ls[K]?.getD default) := sum_take h default
theorem lensA_le {ls : List AttrD} {K : Nat} : lensA ls K ≤ (ls.map cntAttr).sum := by
  unfold lensA
  conv => rhs; rw [← List.take_append_drop K ls, List.map_append, List.sum_append]
  omega
theorem lensA_all {ls : List AttrD} {K : Nat} (h : ls.length ≤ K) : lensA ls K = (ls.map cntAttr).sum := by unfold lensA; rw [List.take_of_length_le h]
/-- An attribute marked from k0 on. -/
def markAttrD (k0 : Int) (a : AttrD) : AttrD := ⟨markB k0, marksI (k0 + 1) a.cuts.length, marksS (k0 + 1 + a.cuts.length) a.vals.length⟩
def mixAttrs (k0 : Int) (ls : List AttrD) : Nat → List AttrD
  | 0 => ls
  | K + 1 => (mixAttrs k0 ls K).set K (markAttrD (k0 + lensA ls K) (ls[K]?.getD default))
def marksA (k0 : Int) (ls : List AttrD) : List AttrD := mixAttrs k0 ls ls.length
theorem mixAttrs_len (k0 : Int) (ls : List AttrD) (K : Nat) : (mixAttrs k0 ls K).length = ls.length := by
  induction K with
  | zero => rfl
  | succ K ih => rw [mixAttrs, List.length_set, ih]
theorem mixAttrs_old {k0 : Int} {ls : List AttrD} {K j : Nat} (h : K ≤ j) : (mixAttrs k0 ls K)[j]? = ls[j]? := by
  induction K with
  | zero => rfl
  | succ K ih => rw [mixAttrs, List.getElem?_set_ne (by omega), ih (by omega)]
theorem mixAttrs_new {k0 : Int} {ls : List AttrD} {K j : Nat} (h : j < K) (hj : j < ls.length) : (mixAttrs k0 ls K)[j]?.getD default = markAttrD (k0 + lensA ls j) (ls[j]?.getD default) := by
  induction K with
  | zero => omega
  | succ K ih =>
    rw [mixAttrs]
    by_cases e : j = K
    · subst e
      rw [List.getElem?_set_self (by rw [mixAttrs_len]; exact hj)]; rfl
    · rw [List.getElem?_set_ne (by omega)]
      exact ih (by omega)
theorem marksA_len (k0 : Int) (ls : List AttrD) : (marksA k0 ls).length = ls.length := mixAttrs_len _ _ _
theorem markB_size (k : Int) (h : k ≤ 1099511627776) : (markB k).size ≤ 1048576 := by
  unfold markB
  split
  · have key : ∀ (f n : Nat) (acc : List UInt8), n < 10 ^ f → (decTo n acc).length ≤ acc.length + f := by
      intro f
      induction f with
      | zero =>
        intro n acc hn
        have : n = 0 := by omega
        subst this
        rw [decTo_zero]; omega
      | succ f ih =>
        intro n acc hn
        by_cases h0 : n = 0
        · subst h0; rw [decTo_zero]; omega
        · rw [decTo_pos (by omega)]
          have := ih (n / 10) (UInt8.ofNat (48 + n % 10) :: acc) (by rw [Nat.pow_succ] at hn; omega)
          simp only [List.length_cons] at this
          omega
    have h1 := key 13 k.toNat [] (by omega)
    show (109 :: decTo k.toNat []).toArray.size ≤ _
    simp only [List.size_toArray, List.length_cons]
    simp only [List.length_nil] at h1
    omega
  · decide
theorem marksA_small {k0 : Int} {ls : List AttrD} (h : ∀ a ∈ ls, attrSmall a) (hk : k0 + (ls.map cntAttr).sum ≤ 1099511627776) : ∀ a ∈ marksA k0 ls, attrSmall a := by
  intro a ha
  obtain ⟨j, hj, rfl⟩ := List.mem_iff_getElem.1 ha
  have hj' : j < ls.length := by rwa [marksA_len] at hj
  have e : (marksA k0 ls)[j] = markAttrD (k0 + lensA ls j) (ls[j]?.getD default) := by
    rw [← mixAttrs_new hj' hj', getD_of_lt (by rw [mixAttrs_len]; exact hj')]; rfl
  have hle : lensA ls (j + 1) ≤ _ := lensA_le (ls := ls) (K := j + 1)
  rw [lensA_step hj'] at hle
  obtain ⟨q1, q2, q3, q4⟩ := h _ (List.getElem_mem hj')
  rw [e, markAttrD]
  have hg : ls[j]?.getD default = ls[j] := getD_of_lt hj' default
  rw [hg] at hle ⊢
  have hc : cntAttr ls[j] = 1 + ls[j].cuts.length + ls[j].vals.length := rfl
  refine ⟨markB_size _ (by omega), fun s hs => ?_, by simp only [marksI_len]; exact q3, by simp only [marksS_len]; exact q4⟩
  simp only [marksS, List.mem_map, List.mem_range] at hs
  obtain ⟨i, hi, rfl⟩ := hs
  exact markB_size _ (by omega)

theorem strRow_of {B N : Nat} {w : World} {r : Nat → Row} (hb : Bag B N w r) {i : Nat} (hi : i < N) {A' : Option Addr} {n' c' : Nat} {l : List ByteArray} (hr : r i = strRow A' n' c' l) : w.ownsRow B 9 1 (.slice A' n' c') n' (l.map Value.string) := by
  have := hb.own i hi
  rw [hr] at this
  exact this
theorem intRow_of {B N : Nat} {w : World} {r : Nat → Row} (hb : Bag B N w r) {i : Nat} (hi : i < N) {A' : Option Addr} {n' c' : Nat} {l : List Int} (hr : r i = intRow A' n' c' l) : w.ownsRow B 3 1 (.slice A' n' c') n' (l.map (Value.int .i64)) := by
  have := hb.own i hi
  rw [hr] at this
  exact this
/-- Attribute K's three parts turned: its name, its cuts, its words. -/
theorem AttrsTo.turned {r r' : Nat → Row} {A : Option Addr} {n c K : Nat} {ls : List AttrD} {a : AttrD} (h : AttrsTo r A n c ls n) (hK : K < n)
    {A1 A2 : Option Addr} {n1 c1 n2 c2 : Nat} (g1 : (r 0).xs[K * 3 + 1]? = some (.slice A1 n1 c1)) (g2 : (r 0).xs[K * 3 + 2]? = some (.slice A2 n2 c2)) (hlen : (r 0).xs.length = n * 3)
    (h0 : r' 0 = ⟨(r 0).ty, (r 0).sz, (r 0).val, (r 0).len, (r 0).xs.set (K * 3) (.string a.name)⟩) (h1 : r' (1 + 2 * K) = intRow A1 n1 c1 a.cuts) (h2 : r' (2 + 2 * K) = strRow A2 n2 c2 a.vals)
    (hoth : ∀ i, i < n → i ≠ K → r' (1 + 2 * i) = r (1 + 2 * i) ∧ r' (2 + 2 * i) = r (2 + 2 * i)) : AttrsTo r' A n c (ls.set K a) n := by
  refine ⟨by rw [List.length_set]; exact h.len, by rw [h0]; exact h.head, fun i hi => ?_⟩
  rw [h0]
  have hKl : K < ls.length := by rw [← h.len]; exact hK
  by_cases e : i = K
  · subst e
    refine ⟨A1, n1, c1, A2, n2, c2, ?_, ?_, ?_, ?_, ?_⟩
    · show ((r 0).xs.set (i * 3) _)[i * 3]? = _
      rw [List.getElem?_set_self (by omega), List.getElem?_set_self hKl]; rfl
    · show ((r 0).xs.set (i * 3) _)[i * 3 + 1]? = _
      rw [List.getElem?_set_ne (by omega)]; exact g1
    · show ((r 0).xs.set (i * 3) _)[i * 3 + 2]? = _
      rw [List.getElem?_set_ne (by omega)]; exact g2
    · rw [List.getElem?_set_self hKl]; exact h1
    · rw [List.getElem?_set_self hKl]; exact h2
  · obtain ⟨B1, m1, d1, B2, m2, d2, k0, k1, k2, k3, k4⟩ := h.rows i hi
    obtain ⟨o1, o2⟩ := hoth i hi e
    refine ⟨B1, m1, d1, B2, m2, d2, ?_, ?_, ?_, ?_, ?_⟩
    · show ((r 0).xs.set (K * 3) _)[i * 3]? = _
      rw [List.getElem?_set_ne (by omega), List.getElem?_set_ne (Ne.symm e)]; exact k0
    · show ((r 0).xs.set (K * 3) _)[i * 3 + 1]? = _
      rw [List.getElem?_set_ne (by omega)]; exact k1
    · show ((r 0).xs.set (K * 3) _)[i * 3 + 2]? = _
      rw [List.getElem?_set_ne (by omega)]; exact k2
    · rw [o1, List.getElem?_set_ne (Ne.symm e)]; exact k3
    · rw [o2, List.getElem?_set_ne (Ne.symm e)]; exact k4
end Go.Proofs.Ytjdncobdecdhmaa
