/-
  Contracts: attributes, the program's side; bins; cuts.
-/
import Derived.Test.YtjdncobdecdhmaaAttr
namespace Go.Proofs.Ytjdncobdecdhmaa
open Go.RowKit

set_option maxRecDepth 100000 in
set_option maxHeartbeats 2000000 in
theorem implAttrOk_any (A1 : Option Addr) (n1 c1 : Nat) (A2 : Option Addr) (n2 c2 : Nat) (a : AttrD) (w : World) (h : AttrM w A1 n1 c1 A2 n2 c2 a) :
    Calls Try.prog 85 #[.agg #[.string a.name, .slice A1 n1 c1, .slice A2 n2 c2]] w fun e w' => e = .returned (.bool (attrB a)) ∧ Below w.heap.size w w' := by
  have HM := hide h
  have hn1 := h.b1
  have hn2 := h.b2
  have hl1 := hide h.cuts.1
  have hl2 := hide h.vals.1
  have hnm := h.name
  have hbox : Below w.heap.size w (w.alloc (.cells #[.string a.name, .slice A1 n1 c1, .slice A2 n2 c2] 73)) := (Below.refl _ _).alloc (Nat.le_refl _) _
  have HV := hide (HM.out.keep hbox)
  clear h
  cases hw : wordB a.name
  · have hfin := hide (show attrB a = false by rw [attrB, hw]; rfl)
    go_enter Try.func85, Try.ntmps85
    go_wp2_with (go_at_call 107; refine (implWordOk_any _ _ (by omega)).mono ?_; rintro e w' ⟨rfl, rfl⟩)
    go_ret
    exact ⟨ret_bool hfin.out.symm, hbox⟩
  · by_cases h0 : n1 = 0
    · subst h0
      have hfin := hide (attrB_few hw hl1.out.symm)
      rw [← hl2.out] at hfin
      cases h2 : inB (n2 : Int) 2 4
      · go_enter Try.func85, Try.ntmps85
        go_wp2_with (first | (go_at_call 107; refine (implWordOk_any _ _ (by omega)).mono ?_; rintro e w' ⟨rfl, rfl⟩) | (go_at_call 65; refine (within_any _ _ _ _).mono ?_; rintro e w' ⟨rfl, rfl⟩))
        go_ret
        exact ⟨ret_bool (by rw [hfin.out, h2]; rfl), hbox⟩
      · go_enter Try.func85, Try.ntmps85
        go_wp2_with (first | (go_at_call 107; refine (implWordOk_any _ _ (by omega)).mono ?_; rintro e w' ⟨rfl, rfl⟩) | (go_at_call 65; refine (within_any _ _ _ _).mono ?_; rintro e w' ⟨rfl, rfl⟩) | (go_at_call 84; refine (implWords_any A2 n2 c2 a.vals _ HV.out.vals (fun s hs => by have := HM.out.sizes s hs; omega) (by omega) HM.out.cc).mono ?_; rintro e w' ⟨rfl, rfl⟩))
        go_ret
        exact ⟨ret_bool (by rw [hfin.out, h2]; rfl), hbox⟩
    · have hnot : a.cuts.length ≠ 0 := by have := hl1.out; omega
      have hnot := hide hnot
      have hfin := hide (attrB_cuts hw hnot.out)
      rw [← hl2.out] at hfin
      have hb0 : ((n1 : Int) == 0) = false := beq_eq_false_iff_ne.2 (by omega)
      by_cases hv : 0 < n2
      · have hfin2 := hide (show attrB a = false by rw [hfin.out]; simp; omega)
        have hb1 : ((n2 : Int) == 0) = false := beq_eq_false_iff_ne.2 (by omega)
        go_enter Try.func85, Try.ntmps85
        go_wp2_with (go_at_call 107; refine (implWordOk_any _ _ (by omega)).mono ?_; rintro e w' ⟨rfl, rfl⟩)
        go_ret
        exact ⟨ret_bool hfin2.out.symm, hbox⟩
      · obtain rfl : n2 = 0 := by omega
        go_enter Try.func85, Try.ntmps85
        go_wp2_with (first | (go_at_call 107; refine (implWordOk_any _ _ (by omega)).mono ?_; rintro e w' ⟨rfl, rfl⟩) | (go_at_call 39; refine (implCutsOk_any A1 n1 c1 a.cuts _ HV.out.cuts (by omega)).mono ?_; rintro e w' ⟨rfl, hb2⟩))
        go_ret
        exact ⟨ret_bool (by rw [hfin.out]; rfl), bthen hbox hb2⟩

/-- The bins of a valid attribute. -/
def binN (n1 n2 : Nat) : Int := if 0 < n1 then (n1 : Int) + 1 else n2
theorem binsOf_cuts {a : AttrD} (h : attrB a = true) (h0 : 0 < a.cuts.length) : binsOf a = (a.cuts.length : Int) + 1 := by rw [binsOf, if_pos h, if_pos h0]
theorem binsOf_vals {a : AttrD} (h : attrB a = true) (h0 : ¬ 0 < a.cuts.length) : binsOf a = a.vals.length := by rw [binsOf, if_pos h, if_neg h0]
theorem binsOf_no {a : AttrD} (h : attrB a = false) : binsOf a = 0 := by rw [binsOf, h]; rfl

set_option maxRecDepth 100000 in
set_option maxHeartbeats 2000000 in
theorem specBins_any (A1 : Option Addr) (n1 c1 : Nat) (A2 : Option Addr) (n2 c2 : Nat) (a : AttrD) (w : World) (h : AttrM w A1 n1 c1 A2 n2 c2 a) :
    Calls Try.prog 51 #[.agg #[.string a.name, .slice A1 n1 c1, .slice A2 n2 c2]] w fun e w' => e = .returned (.int .i64 (binsOf a)) ∧ Below w.heap.size w w' := by
  have hn1 := h.b1
  have hn2 := h.b2
  have hl1 := hide h.cuts.1
  have hl2 := hide h.vals.1
  have hbox : Below w.heap.size w (w.alloc (.cells #[.string a.name, .slice A1 n1 c1, .slice A2 n2 c2] 73)) := (Below.refl _ _).alloc (Nat.le_refl _) _
  have HV := hide (h.keep hbox)
  clear h
  cases hok : attrB a
  · have hfin := hide (binsOf_no hok)
    go_enter Try.func51, Try.ntmps51
    go_wp2_with (go_at_call 82; refine (specAttrOk_any A1 n1 c1 A2 n2 c2 a _ HV.out).mono ?_; rintro e w1 ⟨rfl, hb1⟩; rw [hok])
    go_ret
    exact ⟨ret_int hfin.out.symm, bthen hbox hb1⟩
  · by_cases h0 : 0 < n1
    · have hfin := hide (binsOf_cuts hok (by have := hl1.out; omega))
      rw [← hl1.out] at hfin
      go_enter Try.func51, Try.ntmps51
      go_wp2_with (fail)
      refine (specAttrOk_any A1 n1 c1 A2 n2 c2 a _ HV.out).mono ?_
      rintro e w1 ⟨rfl, hb1⟩
      rw [hok]
      have hz : w.heap.size < w1.heap.size := by have := hb1.size; simp at this; omega
      have hbel := bthen hbox hb1
      obtain ⟨hc1, hf1⟩ := bcell hb1
      clear hb1
      go_wp2
      go_ret
      exact ⟨ret_int (by rw [hfin.out]), hbel⟩
    · obtain rfl : n1 = 0 := by omega
      have hfin := hide (binsOf_vals hok (by have := hl1.out; omega))
      rw [← hl2.out] at hfin
      go_enter Try.func51, Try.ntmps51
      go_wp2_with (fail)
      refine (specAttrOk_any A1 0 c1 A2 n2 c2 a _ HV.out).mono ?_
      rintro e w1 ⟨rfl, hb1⟩
      rw [hok]
      have hz : w.heap.size < w1.heap.size := by have := hb1.size; simp at this; omega
      have hbel := bthen hbox hb1
      obtain ⟨hc1, hf1⟩ := bcell hb1
      clear hb1
      go_wp2
      go_ret
      exact ⟨ret_int (by rw [hfin.out]), hbel⟩

set_option maxRecDepth 100000 in
set_option maxHeartbeats 2000000 in
theorem bins_any (A1 : Option Addr) (n1 c1 : Nat) (A2 : Option Addr) (n2 c2 : Nat) (s : ByteArray) (w : World) (hn1 : n1 ≤ 1048576) :
    Calls Try.prog 56 #[.agg #[.string s, .slice A1 n1 c1, .slice A2 n2 c2]] w fun e w' => e = .returned (.int .i64 (binN n1 n2)) ∧ Below w.heap.size w w' := by
  have hbox : Below w.heap.size w (w.alloc (.cells #[.string s, .slice A1 n1 c1, .slice A2 n2 c2] 73)) := (Below.refl _ _).alloc (Nat.le_refl _) _
  by_cases h0 : 0 < n1
  · rw [binN, if_pos h0]
    go_enter Try.func56, Try.ntmps56
    go_wp2
    go_ret
    exact ⟨rfl, hbox⟩
  · rw [binN, if_neg h0]
    obtain rfl : n1 = 0 := by omega
    go_enter Try.func56, Try.ntmps56
    go_wp2
    go_ret
    exact ⟨rfl, hbox⟩

theorem cutsOk_attr {l : List Int} (h : 0 < l.length) : attrB ⟨⟨#[97]⟩, l, []⟩ = cutsB l := by
  have hw : wordB (⟨#[97]⟩ : ByteArray) = true := by decide
  rw [attrB_cuts hw (show l.length ≠ 0 by omega)]; simp
end Go.Proofs.Ytjdncobdecdhmaa
