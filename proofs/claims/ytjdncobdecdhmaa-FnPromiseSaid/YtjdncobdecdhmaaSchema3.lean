/-
  Schemas: copies that own their rows.
-/
import Derived.Test.YtjdncobdecdhmaaSchema2
namespace Go.Proofs.Ytjdncobdecdhmaa
open Go.RowKit
set_option maxRecDepth 100000

theorem infoA : (Try.prog.info? 73).map (fun i => (i.zero, i.size, i.bytes)) = some (some (.agg #[.string ⟨#[]⟩, .slice none 0 0, .slice none 0 0]), 3, 64) := by kernel_rfl
/-- Row 0 is the outer slice of attributes; its first k elements hold the slices of the rows 1 + 2 i, 2 + 2 i. -/
structure AttrsTo (r : Nat → Row) (A : Option Addr) (n c : Nat) (ls : List AttrD) (k : Nat) : Prop where
  len : n = ls.length
  head : (r 0).ty = 73 ∧ (r 0).sz = 3 ∧ (r 0).val = .slice A n c ∧ (r 0).len = n
  rows : ∀ i, i < k → ∃ A1 n1 c1 A2 n2 c2, (r 0).xs[i * 3]? = some (.string (ls[i]?.getD default).name) ∧ (r 0).xs[i * 3 + 1]? = some (.slice A1 n1 c1) ∧ (r 0).xs[i * 3 + 2]? = some (.slice A2 n2 c2) ∧
    r (1 + 2 * i) = intRow A1 n1 c1 (ls[i]?.getD default).cuts ∧ r (2 + 2 * i) = strRow A2 n2 c2 (ls[i]?.getD default).vals
theorem AttrsTo.outer {B N : Nat} {w : World} {r : Nat → Row} {A : Option Addr} {n c k : Nat} {ls : List AttrD} (h : AttrsTo r A n c ls k) (hb : Bag B N w r) (hN : 0 < N) : w.ownsRow B 73 3 (.slice A n c) n (r 0).xs := by
  obtain ⟨h1, h2, h3, h4⟩ := h.head
  have := hb.own 0 hN
  unfold Row.own at this
  rw [h1, h2, h3, h4] at this
  exact this
/-- One attribute more. -/
theorem AttrsTo.step {B : Nat} {w w1 : World} {r : Nat → Row} {g n c k : Nat} {ls : List AttrD} {D1 D2 : Option Addr} {n1 m1 n2 m2 : Nat} (h : AttrsTo r (some ⟨g, 0, none⟩) n c ls k) (hb : Bag B (1 + 2 * k) w r) (hk : k < n)
    (ho : Bag w.heap.size 2 w1 (rpair (intRow D1 n1 m1 (ls[k]?.getD default).cuts) (strRow D2 n2 m2 (ls[k]?.getD default).vals))) (hw : Below w.heap.size w w1) (hB : B ≤ w.heap.size) :
    ∃ r', Bag B (1 + 2 * (k + 1)) (((w1.setCell ⟨g, k * 3, none⟩ (.string (ls[k]?.getD default).name)).setCell ⟨g, k * 3 + 1, none⟩ (.slice D1 n1 m1)).setCell ⟨g, k * 3 + 2, none⟩ (.slice D2 n2 m2)) r' ∧ AttrsTo r' (some ⟨g, 0, none⟩) n c ls (k + 1) := by
  have h1 := hb.cat ho hB (Nat.le_refl _) hw
  obtain ⟨e1, e2, e3, e4⟩ := h.head
  obtain ⟨s, hs⟩ : ∃ s, s = rcat (1 + 2 * k) r (rpair (intRow D1 n1 m1 (ls[k]?.getD default).cuts) (strRow D2 n2 m2 (ls[k]?.getD default).vals)) := ⟨_, rfl⟩
  rw [← hs] at h1
  have s0 : s 0 = r 0 := by rw [hs]; unfold rcat; rw [if_pos (by omega)]
  have h2 := h1.poke (i := 0) (g := g) (c := c) (by omega) (by rw [s0, e3, e4]) (k * 3) (.string (ls[k]?.getD default).name)
  have h3 := h2.poke (i := 0) (g := g) (c := c) (by omega) (by rw [rput_same]; show (s 0).val = .slice _ (s 0).len _; rw [s0, e3, e4]) (k * 3 + 1) (.slice D1 n1 m1)
  have h4 := h3.poke (i := 0) (g := g) (c := c) (by omega) (by rw [rput_same, rput_same]; show (s 0).val = .slice _ (s 0).len _; rw [s0, e3, e4]) (k * 3 + 2) (.slice D2 n2 m2)
  rw [show 1 + 2 * k + 2 = 1 + 2 * (k + 1) by omega] at h4
  refine ⟨_, h4, ?_⟩
  have hxl : (r 0).xs.length = n * 3 := (h.outer hb (by omega)).1
  refine ⟨h.len, ?_, fun i hi => ?_⟩
  · rw [rput_same, rput_same, rput_same, s0]; exact ⟨e1, e2, e3, e4⟩
  · rw [rput_same, rput_same, rput_same, s0, rput_other _ _ (show 1 + 2 * i ≠ 0 by omega), rput_other _ _ (show 1 + 2 * i ≠ 0 by omega), rput_other _ _ (show 1 + 2 * i ≠ 0 by omega),
      rput_other _ _ (show 2 + 2 * i ≠ 0 by omega), rput_other _ _ (show 2 + 2 * i ≠ 0 by omega), rput_other _ _ (show 2 + 2 * i ≠ 0 by omega)]
    by_cases e : i = k
    · subst e
      refine ⟨D1, n1, m1, D2, n2, m2, ?_, ?_, ?_, ?_, ?_⟩
      · rw [List.getElem?_set_ne (by omega), List.getElem?_set_ne (by omega), List.getElem?_set_self (by omega)]
      · rw [List.getElem?_set_ne (by omega), List.getElem?_set_self (by simp; omega)]
      · rw [List.getElem?_set_self (by simp; omega)]
      · rw [hs]; unfold rcat rpair; rw [if_neg (by omega), if_pos (by omega)]
      · rw [hs]; unfold rcat rpair; rw [if_neg (by omega), if_neg (by omega)]
    · obtain ⟨A1, n1', c1, A2, n2', c2, k0, k1, k2, k3, k4⟩ := h.rows i (by omega)
      refine ⟨A1, n1', c1, A2, n2', c2, ?_, ?_, ?_, ?_, ?_⟩
      · rw [List.getElem?_set_ne (by omega), List.getElem?_set_ne (by omega), List.getElem?_set_ne (by omega)]; exact k0
      · rw [List.getElem?_set_ne (by omega), List.getElem?_set_ne (by omega), List.getElem?_set_ne (by omega)]; exact k1
      · rw [List.getElem?_set_ne (by omega), List.getElem?_set_ne (by omega), List.getElem?_set_ne (by omega)]; exact k2
      · rw [hs]; unfold rcat; rw [if_pos (by omega)]; exact k3
      · rw [hs]; unfold rcat; rw [if_pos (by omega)]; exact k4
/-- The sizes of a small attribute. -/
def attrSmall (a : AttrD) : Prop := a.name.size ≤ 1048576 ∧ (∀ s ∈ a.vals, s.size ≤ 1048576) ∧ a.cuts.length ≤ 1048576 ∧ a.vals.length ≤ 1048576
/-- Owned attributes read as attributes. -/
theorem AttrsTo.m {B N : Nat} {w : World} {r : Nat → Row} {A : Option Addr} {n c : Nat} {ls : List AttrD} (h : AttrsTo r A n c ls n) (hb : Bag B N w r) (hN : 2 * n < N) (hs : ∀ l ∈ ls, attrSmall l) : AttrsM w A n ls := by
  refine ⟨h.len, fun hn => ?_⟩
  have hO := h.outer hb (by omega)
  obtain ⟨g, rfl, hg1, hg2⟩ := own_form hO hn
  refine ⟨_, rfl, hg2, fun i hi => ?_⟩
  have hlen := h.len
  obtain ⟨A1, n1, c1, A2, n2, c2, k0, k1, k2, k3, k4⟩ := h.rows i (by rw [h.len]; exact hi)
  have hi' : ls[i]?.getD default = ls[i] := getD_of_lt hi default
  rw [hi'] at k0 k3 k4
  have o1 : w.ownsRow B 3 1 (.slice A1 n1 c1) n1 (ls[i].cuts.map (Value.int .i64)) := by
    have := hb.own (1 + 2 * i) (by omega)
    rw [k3] at this
    exact this
  have o2 : w.ownsRow B 9 1 (.slice A2 n2 c2) n2 (ls[i].vals.map Value.string) := by
    have := hb.own (2 + 2 * i) (by omega)
    rw [k4] at this
    exact this
  obtain ⟨q1, q2, q3, q4⟩ := hs _ (List.getElem_mem hi)
  have z1 := (ints_of o1).1
  have z2 := (strs_of o2).1
  refine ⟨[.string ls[i].name, .slice A1 n1 c1, .slice A2 n2 c2], rfl, ⟨A1, n1, c1, A2, n2, c2, rfl, ints_of o1, strs_of o2, q1, q2, by omega, by omega, own_cap o2⟩, fun j u hu => ?_⟩
  have hcell : ∀ j u, (r 0).xs[j]? = some u → w.cell? ((⟨g, 0, none⟩ : Addr).add j) = some u := hO.cells (g := g) rfl
  match j, hu with
  | 0, hu =>
    simp only [List.getElem?_cons_zero, Option.some.injEq] at hu
    subst hu
    exact hcell _ _ k0
  | 1, hu =>
    simp only [List.getElem?_cons_succ, List.getElem?_cons_zero, Option.some.injEq] at hu
    subst hu
    exact hcell _ _ k1
  | 2, hu =>
    simp only [List.getElem?_cons_succ, List.getElem?_cons_zero, Option.some.injEq] at hu
    subst hu
    exact hcell _ _ k2
  | j + 3, hu => simp at hu

set_option maxHeartbeats 1000000 in
theorem toAttr_own (A1 : Option Addr) (n1 c1 : Nat) (A2 : Option Addr) (n2 c2 : Nat) (a : AttrD) (w : World) (h : AttrM w A1 n1 c1 A2 n2 c2 a) :
    Calls Try.prog 83 #[.agg #[.string a.name, .slice A1 n1 c1, .slice A2 n2 c2]] w fun e w' => ∃ B1 m1 B2 m2, e = .returned (.agg #[.string a.name, .slice B1 n1 m1, .slice B2 n2 m2]) ∧ Bag w.heap.size 2 w' (rpair (intRow B1 n1 m1 a.cuts) (strRow B2 n2 m2 a.vals)) ∧ Below w.heap.size w w' := by
  have HM := hide h
  have hn1 := h.b1
  have hn2 := h.b2
  have hl1 := hide h.cuts.1
  have hl2 := hide h.vals.1
  clear h
  go_enter Try.func83, Try.ntmps83
  go_wp2_with (fail)
  have hB0 : Below w.heap.size w (((w.alloc (.cells #[.string a.name, .slice A1 n1 c1, .slice A2 n2 c2] 93)).alloc (.cells #[.string ⟨#[]⟩, .slice none 0 0, .slice none 0 0] 73)).alloc (.cells #[.string a.name, .slice none 0 0, .slice none 0 0] 73)) :=
    (((Below.refl _ _).alloc (Nat.le_refl _) _).alloc (by simp) _).alloc (by simp; omega) _
  refine (toIntS_any A1 n1 c1 a.cuts _ (HM.out.cuts.keep hB0) (by omega)).mono ?_
  rintro e w1 ⟨D1, m1, rfl, ho1, hb1⟩
  have hz1 : w.heap.size + 2 < w1.heap.size := by have := hb1.size; simp at this; omega
  have hz1' : w.heap.size + 1 < w1.heap.size := by omega
  have hz1'' : w.heap.size < w1.heap.size := by omega
  have hB1 := bthen hB0 hb1
  obtain ⟨hc1, hf1⟩ := bcell hb1
  have ho1' : w1.ownsRow (w.heap.size + 3) 3 1 (.slice D1 n1 m1) n1 (a.cuts.map (Value.int .i64)) := by
    have := ho1
    unfold OwnI at this
    rw [← hl1.out] at this
    simpa using this
  have HO := hide ho1'
  clear hb1 ho1 ho1'
  go_wp2_with (fail)
  refine (toStringS_any A2 n2 c2 a.vals _ (HM.out.vals.keep (hB1.setCell (by simp; omega) _)) (by omega)).mono ?_
  rintro e w2 ⟨D2, m2, rfl, ho2, hb2⟩
  have hz2 := hb2.size
  have hB2 := bthen (hB1.setCell (p := ⟨w.heap.size + 2, 1, none⟩) (by simp) _) hb2
  obtain ⟨hc2, hf2⟩ := bcell hb2
  have ho2' : w2.ownsRow w1.heap.size 9 1 (.slice D2 n2 m2) n2 (a.vals.map Value.string) := by
    have := ho2
    unfold OwnS at this
    rw [← hl2.out] at this
    simpa using this
  have hS0 : Only (fun j => j < w.heap.size + 3) w1 (w1.setCell ⟨w.heap.size + 2, 1, none⟩ (.slice D1 n1 m1)) := (Only.refl _ _).setCell (show w.heap.size + 2 < w.heap.size + 3 by omega) _
  have HSO := hide (Bag.pair (B := w.heap.size + 3) (s := intRow D1 n1 m1 a.cuts) (t := strRow D2 n2 m2 a.vals) (own_only HO.out hS0 (fun j hj h => by have := (HO.out.lt j hj).1; omega)) ho2' (by simpa using hb2) (by omega) (by simp))
  clear ho2 ho2' hB0 hS0
  have hR0 : w2.cell? ⟨w.heap.size + 1, 0, none⟩ = some (.string ⟨#[]⟩) := by go_simp
  have hR1 : w2.cell? ⟨w.heap.size + 1, 1, none⟩ = some (.slice none 0 0) := by go_simp
  have hR2 : w2.cell? ⟨w.heap.size + 1, 2, none⟩ = some (.slice none 0 0) := by go_simp
  go_wp2
  have hW2 : Only (fun j => j < w.heap.size + 3) w2 ((((w2.setCell ⟨w.heap.size + 1 + 1, 2, none⟩ (.slice D2 n2 m2)).setCell ⟨w.heap.size + 1, 0, none⟩ (.string a.name)).setCell ⟨w.heap.size + 1, 1, none⟩ (.slice D1 n1 m1)).setCell ⟨w.heap.size + 1, 2, none⟩ (.slice D2 n2 m2)) :=
    ((((Only.refl _ w2).setCell (show w.heap.size + 1 + 1 < w.heap.size + 3 by omega) _).setCell (show w.heap.size + 1 < w.heap.size + 3 by omega) _).setCell (show w.heap.size + 1 < w.heap.size + 3 by omega) _).setCell (show w.heap.size + 1 < w.heap.size + 3 by omega) _
  exact bodyPost_ret (v := .agg #[.string a.name, .slice D1 n1 m1, .slice D2 n2 m2]) (by simp [results, Try.results83, go_sem, hR0, hR1, hR2]) rfl
    ⟨D1, m1, D2, m2, rfl, (HSO.out.only hW2 (fun j hj h => by have := HSO.out.lt hj; omega)).mono (by omega),
      (((hB2.setCell (by simp; omega) _).setCell (by simp) _).setCell (by simp) _).setCell (by simp) _⟩
end Go.Proofs.Ytjdncobdecdhmaa
