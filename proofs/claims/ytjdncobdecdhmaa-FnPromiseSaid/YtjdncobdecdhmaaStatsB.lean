/-
  Right statistics: the plain law. No program is walked here.
-/
import Derived.Test.YtjdncobdecdhmaaStats4
import Derived.Test.YtjdncobdecdhmaaExOk2
namespace Go.Proofs.Ytjdncobdecdhmaa
open Go.RowKit

/-- The sum of the elements j < K with j mod c = k. -/
def pSum (l : List Int) (c k : Nat) : Nat → Int
  | 0 => 0
  | K + 1 => pSum l c k K + if K % c = k then l[K]?.getD 0 else 0
theorem pSum_block {l : List Int} {c k : Nat} (hc : c = 2 ∨ c = 3) (hk : k < c) (B : Nat) : pSum l c k ((B + 1) * c) = pSum l c k (B * c) + l[B * c + k]?.getD 0 := by
  rcases hc with rfl | rfl
  · rw [show (B + 1) * 2 = B * 2 + 1 + 1 by omega, pSum, pSum, show B * 2 % 2 = 0 by omega, show (B * 2 + 1) % 2 = 1 by omega]
    rcases (show k = 0 ∨ k = 1 by omega) with rfl | rfl <;> simp
  · rw [show (B + 1) * 3 = B * 3 + 1 + 1 + 1 by omega, pSum, pSum, pSum, show B * 3 % 3 = 0 by omega, show (B * 3 + 1) % 3 = 1 by omega, show (B * 3 + 1 + 1) % 3 = 2 by omega]
    rcases (show k = 0 ∨ k = 1 ∨ k = 2 by omega) with rfl | rfl | rfl <;> simp
def wt (x : Int) : Bool := inB x 0 999
theorem pSum_bd {l : List Int} {c k : Nat} (h : ∀ x ∈ l, wt x = true) : ∀ K, 0 ≤ pSum l c k K ∧ pSum l c k K ≤ 999 * K := by
  have key : ∀ j : Nat, 0 ≤ l[j]?.getD 0 ∧ l[j]?.getD 0 ≤ 999 := by
    intro j
    rcases Nat.lt_or_ge j l.length with hj | hj
    · rw [List.getElem?_eq_getElem hj, Option.getD_some]
      exact inB_iff.1 (h _ (List.getElem_mem hj))
    · rw [List.getElem?_eq_none hj]; simp
  intro K
  induction K with
  | zero => simp [pSum]
  | succ K ih =>
    rw [pSum]
    have := key K
    split <;> omega
theorem pSum_mono {l : List Int} {c k : Nat} (h : ∀ x ∈ l, wt x = true) {K M : Nat} (hK : K ≤ M) : pSum l c k K ≤ pSum l c k M := by
  have key : ∀ j : Nat, 0 ≤ l[j]?.getD 0 := by
    intro j
    rcases Nat.lt_or_ge j l.length with hj | hj
    · rw [List.getElem?_eq_getElem hj, Option.getD_some]
      exact (inB_iff.1 (h _ (List.getElem_mem hj))).1
    · rw [List.getElem?_eq_none hj]; simp
  obtain ⟨d, rfl⟩ : ∃ d, M = K + d := ⟨M - K, by omega⟩
  clear hK
  induction d with
  | zero => simp
  | succ d ih =>
    rw [← Nat.add_assoc, pSum]
    have := key (K + d)
    split <;> omega
def colB (l tot : List Int) (c z k : Nat) : Bool := (List.range z).all (fun b => wt (l[b * c + k]?.getD 0)) && decide (pSum l c k (z * c) ≤ tot[k]?.getD 0)
def rowB (a : AttrD) (l tot : List Int) (c : Nat) : Bool := decide ((l.length : Int) = binsOf a * c) && (List.range c).all (colB l tot c (binsOf a).toNat)
def rowAt (s : SchemaD) (t : StatsD) (i : Nat) : Bool := rowB (s.attrs[i]?.getD default) (t.cells[i]?.getD []) t.totals s.classes.length
/-- Right statistics of a right schema. -/
def statsB (s : SchemaD) (t : StatsD) : Bool :=
  schemaB s && (decide (t.totals.length = s.classes.length) && (t.totals.all wt && (decide (t.totals.sum ≤ 999) && (decide (t.cells.length = 0) || (decide (t.cells.length = s.attrs.length) && (List.range t.cells.length).all (rowAt s t))))))
section
variable {s : SchemaD} {t : StatsD}
theorem statsB_schema (h : schemaB s = false) : statsB s t = false := by rw [statsB, h]; rfl
theorem statsB_len (h : ¬ t.totals.length = s.classes.length) : statsB s t = false := by simp [statsB, h]
theorem statsB_wt (h : t.totals.all wt = false) : statsB s t = false := by rw [statsB, h]; simp
theorem statsB_sum (h : ¬ t.totals.sum ≤ 999) : statsB s t = false := by simp [statsB, h]
theorem statsB_rest (h1 : schemaB s = true) (h2 : t.totals.length = s.classes.length) (h3 : t.totals.all wt = true) (h4 : t.totals.sum ≤ 999) :
    statsB s t = (decide (t.cells.length = 0) || (decide (t.cells.length = s.attrs.length) && (List.range t.cells.length).all (rowAt s t))) := by
  rw [statsB, h1, h3, decide_eq_true h2, decide_eq_true h4]; simp
theorem statsB_none (h1 : schemaB s = true) (h2 : t.totals.length = s.classes.length) (h3 : t.totals.all wt = true) (h4 : t.totals.sum ≤ 999) (h5 : t.cells.length = 0) : statsB s t = true := by
  rw [statsB_rest h1 h2 h3 h4, decide_eq_true h5]; rfl
theorem statsB_cells (h5 : ¬ t.cells.length = 0) (h : ¬ t.cells.length = s.attrs.length) : statsB s t = false := by
  simp [statsB, h, h5]
theorem statsB_row {i : Nat} (h5 : ¬ t.cells.length = 0) (hi : i < t.cells.length) (h : rowAt s t i = false) : statsB s t = false := by
  rw [statsB, range_bad hi h, decide_eq_false h5]; simp
theorem statsB_all (h1 : schemaB s = true) (h2 : t.totals.length = s.classes.length) (h3 : t.totals.all wt = true) (h4 : t.totals.sum ≤ 999) (h5 : t.cells.length = s.attrs.length) (h6 : (List.range t.cells.length).all (rowAt s t) = true) : statsB s t = true := by
  rw [statsB_rest h1 h2 h3 h4, decide_eq_true h5, h6]; simp
theorem schemaB_classes (h : schemaB s = true) : s.classes.length = 2 ∨ s.classes.length = 3 := by
  unfold schemaB at h
  simp only [Bool.and_eq_true] at h
  have := inB_iff.1 h.2.1
  omega
theorem schemaB_attr (h : schemaB s = true) {a : AttrD} (ha : a ∈ s.attrs) : attrB a = true := by
  unfold schemaB at h
  simp only [Bool.and_eq_true] at h
  have h2 := h.2.2.2.1
  rw [List.all_eq_true] at h2
  exact h2 _ ha
end
theorem sum_take_int {l : List Int} {k : Nat} (hk : k < l.length) : (l.take (k + 1)).sum = (l.take k).sum + l[k]?.getD 0 := by
  rw [List.take_succ_eq_append_getElem hk, List.sum_append, List.getElem?_eq_getElem hk]; simp
theorem sum_bd {l : List Int} (h : l.all wt = true) : 0 ≤ l.sum ∧ l.sum ≤ 999 * l.length := by
  induction l with
  | nil => simp
  | cons x l ih =>
    simp only [List.all_cons, Bool.and_eq_true] at h
    have h1 := inB_iff.1 h.1
    have h2 := ih h.2
    simp only [List.sum_cons, List.length_cons]
    omega
/-- The row's law in the program's form. -/
theorem rowB_of {a : AttrD} {l tot : List Int} {c : Nat} (h1 : (l.length : Int) = binsOf a * c) (h2 : l.all wt = true) (h3 : ∀ k, k < c → pSum l c k l.length ≤ tot[k]?.getD 0) : rowB a l tot c = true := by
  have hz := (binsOf_bd a).1
  have e : (binsOf a).toNat * c = l.length := by
    have : ((binsOf a).toNat * c : Nat) = (l.length : Int) := by rw [h1, Int.natCast_mul]; congr 1; omega
    omega
  rw [rowB, decide_eq_true h1, Bool.true_and, List.all_eq_true]
  intro k hk
  have hk' := List.mem_range.1 hk
  rw [colB, e, decide_eq_true (h3 k hk'), Bool.and_true, List.all_eq_true]
  intro b hb
  rw [List.all_eq_true] at h2
  rcases Nat.lt_or_ge (b * c + k) l.length with hj | hj
  · rw [List.getElem?_eq_getElem hj]
    exact h2 _ (List.getElem_mem hj)
  · rw [List.getElem?_eq_none hj]; rfl
theorem rowB_len {a : AttrD} {l tot : List Int} {c : Nat} (h1 : ¬ (l.length : Int) = binsOf a * c) : rowB a l tot c = false := by simp [rowB, h1]
theorem rowB_wt {a : AttrD} {l tot : List Int} {c : Nat} (hc : c = 2 ∨ c = 3) (h2 : l.all wt = false) : rowB a l tot c = false := by
  by_cases h1 : (l.length : Int) = binsOf a * c
  · have hz := (binsOf_bd a).1
    have e : (binsOf a).toNat * c = l.length := by
      have : ((binsOf a).toNat * c : Nat) = (l.length : Int) := by rw [h1, Int.natCast_mul]; congr 1; omega
      omega
    rw [List.all_eq_false] at h2
    obtain ⟨x, hx, hbad⟩ := h2
    obtain ⟨j, hj, rfl⟩ := List.mem_iff_getElem.1 hx
    have hjc : j % c < c := Nat.mod_lt _ (by omega)
    have hjd : j / c < (binsOf a).toNat := by
      rw [Nat.div_lt_iff_lt_mul (by omega)]; omega
    have hcol : colB l tot c (binsOf a).toNat (j % c) = false := by
      rw [colB, range_bad (p := fun b => wt (l[b * c + j % c]?.getD 0)) hjd]
      · rfl
      · show wt (l[j / c * c + j % c]?.getD 0) = false
        rw [Nat.div_add_mod', List.getElem?_eq_getElem hj]
        simpa using hbad
    rw [rowB, range_bad hjc hcol]; simp
  · exact rowB_len h1
theorem rowB_over {a : AttrD} {l tot : List Int} {c K : Nat} (hc : c = 2 ∨ c = 3) (h2 : l.all wt = true) (hK : K < l.length) (h3 : tot[K % c]?.getD 0 < pSum l c (K % c) (K + 1)) : rowB a l tot c = false := by
  by_cases h1 : (l.length : Int) = binsOf a * c
  · have hz := (binsOf_bd a).1
    have e : (binsOf a).toNat * c = l.length := by
      have : ((binsOf a).toNat * c : Nat) = (l.length : Int) := by rw [h1, Int.natCast_mul]; congr 1; omega
      omega
    have hm := pSum_mono (l := l) (c := c) (k := K % c) (K := K + 1) (M := l.length) (by rwa [List.all_eq_true] at h2) (by omega)
    have hcol : colB l tot c (binsOf a).toNat (K % c) = false := by
      rw [colB, e, decide_eq_false (by omega)]; simp
    rw [rowB, range_bad (Nat.mod_lt _ (by omega)) hcol]; simp
  · exact rowB_len h1
theorem rowB_col {a : AttrD} {l tot : List Int} {c k : Nat} (hk : k < c) (h : colB l tot c (binsOf a).toNat k = false) : rowB a l tot c = false := by
  rw [rowB, range_bad hk h]; simp
theorem rowB_all {a : AttrD} {l tot : List Int} {c : Nat} (h1 : (l.length : Int) = binsOf a * c) (h : (List.range c).all (colB l tot c (binsOf a).toNat) = true) : rowB a l tot c = true := by
  rw [rowB, decide_eq_true h1, h]; rfl
theorem colB_wt {l tot : List Int} {c z k b : Nat} (hb : b < z) (h : wt (l[b * c + k]?.getD 0) = false) : colB l tot c z k = false := by
  rw [colB, range_bad (p := fun b => wt (l[b * c + k]?.getD 0)) hb h]; rfl
theorem colB_over {l tot : List Int} {c z k : Nat} (h : ¬ pSum l c k (z * c) ≤ tot[k]?.getD 0) : colB l tot c z k = false := by simp [colB, h]
theorem colB_all {l tot : List Int} {c z k : Nat} (h1 : (List.range z).all (fun b => wt (l[b * c + k]?.getD 0)) = true) (h : pSum l c k (z * c) ≤ tot[k]?.getD 0) : colB l tot c z k = true := by
  rw [colB, h1, decide_eq_true h]; rfl
end Go.Proofs.Ytjdncobdecdhmaa
