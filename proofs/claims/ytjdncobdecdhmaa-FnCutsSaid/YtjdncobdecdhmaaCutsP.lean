/-
  Cuts: the plain law. No program is walked here.
-/
import Derived.Test.YtjdncobdecdhmaaQuant
import Derived.Test.YtjdncobdecdhmaaCuts
import Derived.Test.YtjdncobdecdhmaaCutsOk
namespace Go.Proofs.Ytjdncobdecdhmaa
open Go.RowKit

theorem ascB_snoc {l : List Int} {x : Int} (h : ascB l = true) (hx : l.length = 0 ∨ l[l.length - 1]?.getD 0 < x) : ascB (l ++ [x]) = true := by
  rw [ascB_iff] at h ⊢
  intro i hi
  simp only [List.length_append, List.length_cons, List.length_nil] at hi
  rcases Nat.lt_or_ge (i + 1) l.length with h1 | h1
  · rw [List.getElem?_append_left (by omega), List.getElem?_append_left h1]
    exact h i h1
  · have e : i + 1 = l.length := by omega
    rw [List.getElem?_append_left (by omega), List.getElem?_append_right (by omega), show i + 1 - l.length = 0 by omega]
    simp only [List.getElem?_cons_zero, Option.getD_some]
    rcases hx with hx | hx
    · omega
    · rwa [show l.length - 1 = i by omega] at hx

theorem qTo_asc (S : List Int) (k : Int) : ∀ j, ascB (qTo S k j) = true
  | 0 => by simp [qTo, ascB]
  | j + 1 => by
    have ih := qTo_asc S k j
    unfold qTo
    split
    · rename_i h; exact ascB_snoc ih h
    · exact ih
theorem qTo_pos (S : List Int) (k : Int) (j : Nat) : 0 < (qTo S k (j + 1)).length := by
  unfold qTo
  split
  · simp
  · rename_i h; omega
theorem qTo_mem {S : List Int} {k : Int} (hS : 1 ≤ S.length) (hS2 : S.length ≤ 64) (hk : k ≤ 4) : ∀ j : Nat, (j : Int) < k → ∀ x ∈ qTo S k j, x ∈ S
  | 0, _ => by simp [qTo]
  | j + 1, hj => by
    have ih := qTo_mem hS hS2 hk j (by omega)
    unfold qTo
    split
    · intro x hx
      rcases List.mem_append.1 hx with hx | hx
      · exact ih x hx
      · rw [List.mem_singleton] at hx
        obtain ⟨_, _, h1, h2⟩ := q_bd (n := S.length) (i := 1 + (j : Int)) (k := k) (by omega) (by omega) (by omega) hk (by omega)
        have hlt : ((S.length : Int) * (1 + (j : Int)) / k).toNat < S.length := by omega
        rw [List.getElem?_eq_getElem hlt, Option.getD_some] at hx
        rw [hx]; exact List.getElem_mem _
    · exact ih
theorem qCuts_law (l : List Int) (k : Int) : qCuts l k = [] ∨ (cutsB (qCuts l k) = true ∧ ((qCuts l k).length : Int) ≤ k - 1) := by
  unfold qCuts
  split
  · rename_i h
    simp only [qOk, Bool.and_eq_true, inB_iff, List.all_eq_true] at h
    obtain ⟨hk, hn, ha⟩ := h
    have hl := sortI_len l
    refine .inr ⟨?_, ?_⟩
    · unfold cutsB
      rw [Bool.and_eq_true, Bool.and_eq_true, inB_iff]
      have h1 := qTo_len (sortI l) k (k.toNat - 1)
      obtain ⟨j, hj⟩ : ∃ j, k.toNat - 1 = j + 1 := ⟨k.toNat - 2, by omega⟩
      have h2 := qTo_pos (sortI l) k j
      rw [← hj] at h2
      refine ⟨⟨by omega, by omega⟩, qTo_asc _ _ _, ?_⟩
      rw [List.all_eq_true]
      intro x hx
      rw [inB_iff]
      exact ha x ((sortI_perm l).mem_iff.1 (qTo_mem (by omega) (by omega) hk.2 _ (by omega) x hx))
    · have h1 := qTo_len (sortI l) k (k.toNat - 1)
      omega
  · exact .inl rfl

theorem eqCuts_law (lo hi k : Int) : eqCuts lo hi k = [] ∨ (cutsB (eqCuts lo hi k) = true ∧ ((eqCuts lo hi k).length : Int) = k - 1) := by
  unfold eqCuts
  split
  · rename_i h
    obtain ⟨⟨hk1, hk2⟩, hlo, hhi, hd⟩ := eqCuts_num h
    refine .inr ⟨?_, by rw [eqCutsTo_len]; omega⟩
    have hk : k = 2 ∨ k = 3 ∨ k = 4 := by omega
    rcases hk with rfl | rfl | rfl
    · simp only [show (2 : Int).toNat - 1 = 1 from rfl, eqCutsTo, List.range_succ, List.range_zero, List.nil_append, List.map_cons, List.map_nil, cutsB, ascB, List.length_cons, List.length_nil, Nat.zero_add, Nat.sub_self, List.all_nil, List.all_cons, Bool.and_true, Bool.true_and, Bool.and_eq_true, inB_iff]
      omega
    · simp only [show (3 : Int).toNat - 1 = 2 from rfl, eqCutsTo, List.range_succ, List.range_zero, List.nil_append, List.cons_append, List.map_cons, List.map_nil, cutsB, ascB, List.length_cons, List.length_nil, Nat.zero_add, Nat.reduceAdd, Nat.reduceSub, List.all_nil, List.all_cons, Bool.and_true, Bool.and_eq_true, inB_iff, List.getElem?_cons_zero, List.getElem?_cons_succ, Option.getD_some, decide_eq_true_eq]
      omega
    · simp only [show (4 : Int).toNat - 1 = 3 from rfl, eqCutsTo, List.range_succ, List.range_zero, List.nil_append, List.cons_append, List.map_cons, List.map_nil, cutsB, ascB, List.length_cons, List.length_nil, Nat.zero_add, Nat.reduceAdd, Nat.reduceSub, List.all_nil, List.all_cons, Bool.and_true, Bool.and_eq_true, inB_iff, List.getElem?_cons_zero, List.getElem?_cons_succ, Option.getD_some, decide_eq_true_eq]
      omega
  · exact .inl rfl

theorem binI_mono (l : List Int) {x y : Int} (h : x ≤ y) : binI l x ≤ binI l y := by
  induction l with
  | nil => simp [binI]
  | cons a t ih =>
    unfold binI at ih ⊢
    simp only [List.filter_cons, decide_eq_true_eq]
    split <;> split <;> simp_all <;> omega
theorem binI_all {l : List Int} {x : Int} (h : ∀ y ∈ l, y < x) : binI l x = l.length := by
  unfold binI
  rw [List.filter_eq_self.2 (fun y hy => by simpa using h y hy)]
theorem cuts_max {l : List Int} (h : l = [] ∨ cutsB l = true) : binI l 9223372036854775807 = l.length := by
  refine binI_all fun y hy => ?_
  rcases h with rfl | h
  · simp at hy
  · unfold cutsB at h
    rw [Bool.and_eq_true, Bool.and_eq_true, List.all_eq_true] at h
    have := inB_iff.1 (h.2.2 y hy)
    omega
theorem count_step (l : List Int) (x : Int) (k : Nat) (h : k < l.length) : (l.take (k + 1)).count x = (l.take k).count x + if l[k]?.getD 0 = x then 1 else 0 := by
  rw [take_snoc_getD l k h, List.count_append, List.count_singleton]
  congr 1
  simp
theorem up_at {l : List Int} (h : up l) {i : Nat} (h0 : 0 < i) (hi : i < l.length) : l[i - 1]?.getD 0 ≤ l[i]?.getD 0 := by
  rw [List.getElem?_eq_getElem (by omega), List.getElem?_eq_getElem hi]
  exact List.pairwise_iff_getElem.1 h (i - 1) i (by omega) hi (by omega)
end Go.Proofs.Ytjdncobdecdhmaa
