/-
  Statistics: copies that own their rows; comparison.
-/
import Derived.Test.YtjdncobdecdhmaaStats
namespace Go.Proofs.Ytjdncobdecdhmaa
open Go.RowKit
set_option maxRecDepth 100000

theorem infoR : (Try.prog.info? 28).map (fun i => (i.zero, i.size, i.bytes)) = some (some (.slice none 0 0), 1, 24) := by kernel_rfl
/-- Row 0 is the outer slice; its first k cells are the slices of the rows 1 .. k, which read as ls. -/
structure RowsTo (r : Nat → Row) (A : Option Addr) (n c : Nat) (ls : List (List Int)) (k : Nat) : Prop where
  len : n = ls.length
  head : (r 0).ty = 28 ∧ (r 0).sz = 1 ∧ (r 0).val = .slice A n c ∧ (r 0).len = n
  rows : ∀ i, i < k → ∃ A' n' c', (r 0).xs[i]? = some (.slice A' n' c') ∧ r (i + 1) = intRow A' n' c' (ls[i]?.getD [])
theorem own_blk_of {w : World} {B : Nat} {e : TypeId} {sz n m c : Nat} {A : Option Addr} {xs : List Value} (h : w.ownsRow B e sz (.slice A n c) m xs) : m = n := by
  rcases h.2 with ⟨hv, h0⟩ | ⟨g, cap, cur, hv, _⟩
  · injection hv with _ h2 _; omega
  · injection hv with _ h2 _; omega
theorem RowsTo.outer {B N : Nat} {w : World} {r : Nat → Row} {A : Option Addr} {n c k : Nat} {ls : List (List Int)} (h : RowsTo r A n c ls k) (hb : Bag B N w r) (hN : 0 < N) : w.ownsRow B 28 1 (.slice A n c) n (r 0).xs := by
  obtain ⟨h1, h2, h3, h4⟩ := h.head
  have := hb.own 0 hN
  unfold Row.own at this
  rw [h1, h2, h3, h4] at this
  exact this
theorem RowsTo.blk {r : Nat → Row} {A : Option Addr} {n c k : Nat} {ls : List (List Int)} (h : RowsTo r A n c ls k) : (r 0).blk = Value.ownBlock (.slice A n c) := by
  unfold Row.blk; rw [h.head.2.2.1]
/-- One row more. -/
theorem RowsTo.step {B : Nat} {w w1 : World} {r : Nat → Row} {g n c k : Nat} {ls : List (List Int)} {D : Option Addr} {n' m' : Nat} (h : RowsTo r (some ⟨g, 0, none⟩) n c ls k) (hb : Bag B (1 + k) w r) (hk : k < n)
    (ho : w1.ownsRow w.heap.size 3 1 (.slice D n' m') n' ((ls[k]?.getD []).map (Value.int .i64))) (hw : Below w.heap.size w w1) (hB : B ≤ w.heap.size) :
    ∃ r', Bag B (1 + (k + 1)) (w1.setCell ⟨g, k, none⟩ (.slice D n' m')) r' ∧ RowsTo r' (some ⟨g, 0, none⟩) n c ls (k + 1) := by
  have h1 : Bag B (1 + k + 1) w1 (rput r (1 + k) (intRow D n' m' (ls[k]?.getD []))) := by
    refine hb.snoc hw ?_ fun g' hg' => (ho.lt g' hg').1
    have := Bag.mono (Bag.one (s := intRow D n' m' (ls[k]?.getD [])) ho) hB
    exact this.own 0 (by omega)
  have hO := (h.outer hb (by omega))
  have hO1 := own_below hO hw
  have hst := hO1.stored k (.slice D n' m')
  have e0 : rput r (1 + k) (intRow D n' m' (ls[k]?.getD [])) 0 = r 0 := rput_other _ _ (by omega)
  refine ⟨rput (rput r (1 + k) (intRow D n' m' (ls[k]?.getD []))) 0 ⟨28, 1, .slice (some ⟨g, 0, none⟩) n c, n, (r 0).xs.set k (.slice D n' m')⟩, ?_, ?_⟩
  · refine h1.store (i := 0) (by omega) ?_ ?_ ?_
    · rw [e0, h.blk]; exact hst.2
    · exact hst.1
    · rw [e0, h.blk]; rfl
  · have hxl : (r 0).xs.length = n := by have := hO.1; omega
    refine ⟨h.len, ?_, fun i hi => ?_⟩
    · rw [rput_same]; exact ⟨rfl, rfl, rfl, rfl⟩
    · rw [rput_same, rput_other _ _ (show i + 1 ≠ 0 by omega)]
      by_cases e : i = k
      · subst e
        rw [show i + 1 = 1 + i by omega, rput_same]
        exact ⟨D, n', m', by rw [List.getElem?_set_self (by omega)], rfl⟩
      · obtain ⟨A', n'', c', k1, k2⟩ := h.rows i (by omega)
        rw [rput_other _ _ (by omega)]
        exact ⟨A', n'', c', by rw [List.getElem?_set_ne (by omega)]; exact k1, k2⟩
/-- Owned rows read as rows. -/
theorem RowsTo.m {B N : Nat} {w : World} {r : Nat → Row} {A : Option Addr} {n c : Nat} {ls : List (List Int)} (h : RowsTo r A n c ls n) (hb : Bag B N w r) (hN : n < N) (hs : ∀ l ∈ ls, l.length ≤ 1048576) : RowsM w A n ls := by
  refine ⟨h.len, fun hn => ?_⟩
  have hO := h.outer hb (by omega)
  obtain ⟨g, rfl, hg1, hg2⟩ := own_form hO hn
  refine ⟨_, rfl, hg2, fun i hi => ?_⟩
  obtain ⟨A', n', c', k1, k2⟩ := h.rows i (by rw [h.len]; exact hi)
  have hi' : ls[i]?.getD [] = ls[i] := getD_of_lt hi []
  rw [hi'] at k2
  have ho : w.ownsRow B 3 1 (.slice A' n' c') n' (ls[i].map (Value.int .i64)) := by
    have := hb.own (i + 1) (by have := h.len; omega)
    rw [k2] at this
    exact this
  refine ⟨[.slice A' n' c'], rfl, ⟨A', n', c', rfl, ?_, ints_of ho⟩, fun j u hu => ?_⟩
  · have h1 := (ints_of ho).1
    have := hs _ (List.getElem_mem hi)
    omega
  · have hj : j = 0 := by
      rcases j with _ | j
      · rfl
      · simp at hu
    subst hj
    simp only [List.getElem?_cons_zero, Option.some.injEq] at hu
    subst hu
    have := hO.cells (g := g) rfl i _ k1
    simpa using this

end Go.Proofs.Ytjdncobdecdhmaa
