/-
  Contracts: the text of a cell; its law.
-/
import Derived.Test.YtohodehmidbmlaaDoorBox3
import Derived.Test.YtohodehmidbmlaaDoorDigits2
import Derived.Test.YtohodehmidbmlaaDoorWords2
namespace Go.Proofs.YtohodehmidbmlaaDoor
open Go.RowKit
set_option maxRecDepth 100000

/-- The text of a cell. -/
def cellT (a : AttrD) (b : Int) : ByteArray :=
  if attrB a = true ∧ inB b (-1) (binsOf a - 1) = true then
    if b = -1 then ⟨#[63]⟩ else if 0 < a.vals.length then a.vals[b.toNat]?.getD ByteArray.empty else if b < a.cuts.length then numB (a.cuts[b.toNat]?.getD 0) else numB (a.cuts[a.cuts.length - 1]?.getD 0 + 1)
  else ⟨#[]⟩
theorem cellT_no1 {a : AttrD} {b : Int} (h : attrB a = false) : cellT a b = ⟨#[]⟩ := by unfold cellT; rw [if_neg]; rw [h]; simp
theorem cellT_no2 {a : AttrD} {b : Int} (h : inB b (-1) (binsOf a - 1) = false) : cellT a b = ⟨#[]⟩ := by unfold cellT; rw [if_neg]; rw [h]; simp
theorem cellT_open {a : AttrD} {b : Int} (h1 : attrB a = true) (h2 : inB b (-1) (binsOf a - 1) = true) (hb : b = -1) : cellT a b = ⟨#[63]⟩ := by unfold cellT; rw [if_pos ⟨h1, h2⟩, if_pos hb]
theorem cellT_val {a : AttrD} {b : Int} (h1 : attrB a = true) (h2 : inB b (-1) (binsOf a - 1) = true) (hb : ¬ b = -1) (hv : 0 < a.vals.length) : cellT a b = a.vals[b.toNat]?.getD ByteArray.empty := by unfold cellT; rw [if_pos ⟨h1, h2⟩, if_neg hb, if_pos hv]
theorem cellT_cut {a : AttrD} {b : Int} (h1 : attrB a = true) (h2 : inB b (-1) (binsOf a - 1) = true) (hb : ¬ b = -1) (hv : ¬ 0 < a.vals.length) (hc : b < a.cuts.length) : cellT a b = numB (a.cuts[b.toNat]?.getD 0) := by unfold cellT; rw [if_pos ⟨h1, h2⟩, if_neg hb, if_neg hv, if_pos hc]
theorem cellT_end {a : AttrD} {b : Int} (h1 : attrB a = true) (h2 : inB b (-1) (binsOf a - 1) = true) (hb : ¬ b = -1) (hv : ¬ 0 < a.vals.length) (hc : ¬ b < a.cuts.length) : cellT a b = numB (a.cuts[a.cuts.length - 1]?.getD 0 + 1) := by unfold cellT; rw [if_pos ⟨h1, h2⟩, if_neg hb, if_neg hv, if_neg hc]
/-- A right attribute has values or cuts, not both. -/
theorem attrB_parts {a : AttrD} (h : attrB a = true) : (a.cuts.length = 0 ∧ 2 ≤ a.vals.length ∧ a.vals.length ≤ 4 ∧ binsOf a = a.vals.length) ∨
    (a.vals.length = 0 ∧ 1 ≤ a.cuts.length ∧ a.cuts.length ≤ 3 ∧ binsOf a = (a.cuts.length : Int) + 1 ∧ ∀ k, k < a.cuts.length → -9999 ≤ a.cuts[k]?.getD 0 ∧ a.cuts[k]?.getD 0 ≤ 9998) := by
  have hw : wordB a.name = true := by
    unfold attrB at h
    simp only [Bool.and_eq_true] at h
    exact h.1
  by_cases hc : a.cuts.length = 0
  · have h1 := attrB_few hw hc
    rw [h] at h1
    have h2 : inB (a.vals.length : Int) 2 4 = true := by
      have := h1.symm
      simp only [Bool.and_eq_true] at this
      exact this.1
    have h3 := inB_iff.1 h2
    exact .inl ⟨hc, by omega, by omega, binsOf_vals h (by omega)⟩
  · have h1 := attrB_cuts hw hc
    rw [h] at h1
    have h2 := h1.symm
    simp only [Bool.and_eq_true, decide_eq_true_eq] at h2
    obtain ⟨h3, h4⟩ := h2
    unfold cutsB at h4
    simp only [Bool.and_eq_true] at h4
    have h5 := inB_iff.1 (show inB (a.cuts.length : Int) 1 3 = true by first | exact h4.1.1 | exact h4.1)
    have h6 : (a.cuts.all fun x => inB x (-9999) 9998) = true := by first | exact h4.2 | exact h4.2.2
    refine .inr ⟨h3, by omega, by omega, binsOf_cuts h (by omega), fun k hk => ?_⟩
    rw [List.getElem?_eq_getElem hk, Option.getD_some]
    rw [List.all_eq_true] at h6
    exact inB_iff.1 (h6 _ (List.getElem_mem hk))

set_option maxHeartbeats 4000000 in
theorem specCellText_any (A1 : Option Addr) (n1 c1 : Nat) (A2 : Option Addr) (n2 c2 : Nat) (a : AttrD) (b : Int) (w : World) (h : AttrM w A1 n1 c1 A2 n2 c2 a) :
    Calls Tryd.prog 44 #[.agg #[.string a.name, .slice A1 n1 c1, .slice A2 n2 c2], .int .i64 b] w fun e w' => e = .returned (.string (cellT a b)) ∧ Below w.heap.size w w' := by
  have hn1 := h.b1
  have hn2 := h.b2
  have hl1 := hide h.cuts.1
  have hl2 := hide h.vals.1
  have hbox : Below w.heap.size w (w.alloc (.cells #[.string a.name, .slice A1 n1 c1, .slice A2 n2 c2] 64)) := (Below.refl _ _).alloc (Nat.le_refl _) _
  have hX := Box3.new w (.string a.name) (.slice A1 n1 c1) (.slice A2 n2 c2) 64
  have HV := hide (h.keep hbox)
  clear h
  cases hok : attrB a
  · have hfin := hide (cellT_no1 (b := b) hok)
    go_enter Tryd.func44, Tryd.ntmps44
    go_wp2_with (fail)
    refine (specAttrOk_any A1 n1 c1 A2 n2 c2 a _ HV.out).mono ?_
    rintro e w1 ⟨rfl, hb1⟩
    rw [hok]
    have hB := bthen hbox hb1
    clear hb1 hX
    go_wp2
    go_ret
    exact ⟨by rw [hfin.out]; rfl, hB⟩
  have HOK := hide hok
  have HP := hide (attrB_parts hok)
  have hbin : 2 ≤ binsOf a ∧ binsOf a ≤ 4 := by rcases HP.out with h | h <;> omega
  obtain ⟨hb2, hb4⟩ := hbin
  obtain ⟨Z, hZ⟩ : ∃ Z, Z = binsOf a := ⟨_, rfl⟩
  rw [← hZ] at hb2 hb4
  have HZ := hide hZ
  clear hZ
  go_enter Tryd.func44, Tryd.ntmps44
  go_wp2_with (fail)
  refine (specAttrOk_any A1 n1 c1 A2 n2 c2 a _ HV.out).mono ?_
  rintro e w1 ⟨rfl, hb1⟩
  rw [hok]
  have hB := bthen hbox hb1
  replace hX := hX.keep hb1
  replace HV := hide (HV.out.keep hb1)
  clear hb1 hbox hok
  obtain ⟨k0, k1, k2, k3⟩ := id hX
  go_wp2_with (fail)
  refine (specBins_any A1 n1 c1 A2 n2 c2 a _ HV.out).mono ?_
  rintro e w2 ⟨rfl, hb1⟩
  rw [← HZ.out]
  have hB2 := bthen hB hb1
  replace hX := hX.keep hb1
  replace HV := hide (HV.out.keep hb1)
  clear hb1 hB k0 k1 k2 k3
  obtain ⟨k0, k1, k2, k3⟩ := id hX
  cases hin : inB b (-1) (Z - 1)
  · have hfin := hide (cellT_no2 (a := a) (b := b) (by rw [← HZ.out]; exact hin))
    go_wp2_with (first | (go_at_call 113; refine (l1In_any _ _ _ _).mono ?_; rintro e w' ⟨rfl, rfl⟩; rw [hin]))
    go_ret
    exact ⟨by rw [hfin.out]; rfl, hB2⟩
  have HIN := hide (show inB b (-1) (binsOf a - 1) = true by rw [← HZ.out]; exact hin)
  obtain ⟨b0, b1⟩ := inB_iff.1 hin
  by_cases hq : b = -1
  · have hfin := hide (cellT_open HOK.out HIN.out hq)
    have hqb : (b == -1) = true := by simp [hq]
    clear hq
    go_wp2_with (first | (go_at_call 113; refine (l1In_any _ _ _ _).mono ?_; rintro e w' ⟨rfl, rfl⟩; rw [hin]))
    go_ret
    exact ⟨by rw [hfin.out]; rfl, hB2⟩
  obtain ⟨B, rfl⟩ : ∃ B : Nat, b = B := ⟨b.toNat, by omega⟩
  have hqb : ((B : Int) == -1) = false := beq_eq_false_iff_ne.2 hq
  have hq' := hide hq
  clear hq b0
  rcases HP.out with ⟨p1, p2, p3, p4⟩ | ⟨p1, p2, p3, p4, p5⟩
  · have e1 : n1 = 0 := by rw [hl1.out, p1]
    have hn2v := hl2.out
    have hBn : B < n2 := by have := HZ.out; omega
    have hv0 : 0 < n2 := by omega
    obtain ⟨ad, rfl, hab, hcell⟩ := (HV.out.vals).at_ hBn
    obtain ⟨S, hS⟩ : ∃ S, S = a.vals[B]?.getD ByteArray.empty := ⟨_, rfl⟩
    rw [← hS] at hcell
    have hfin := hide (show cellT a (B : Int) = S by rw [cellT_val HOK.out HIN.out hq'.out (by omega), hS]; rfl)
    clear hS p1 p2 p3 p4 hn2v e1
    go_wp2_with (first | (go_at_call 113; refine (l1In_any _ _ _ _).mono ?_; rintro e w' ⟨rfl, rfl⟩; rw [hin]))
    go_ret
    exact ⟨by rw [hfin.out]; rfl, hB2⟩
  · have hn2v := hl2.out
    have hn1v := hl1.out
    obtain rfl : n2 = 0 := by omega
    have hP5 := hide p5
    by_cases hc : B < n1
    · obtain ⟨ad, rfl, hab, hcell⟩ := (HV.out.cuts).at_ hc
      obtain ⟨x, hx⟩ : ∃ x, x = a.cuts[B]?.getD 0 := ⟨_, rfl⟩
      have hxb : -9999 ≤ x ∧ x ≤ 9998 := by rw [hx]; exact p5 B (by omega)
      obtain ⟨x0, x1⟩ := hxb
      rw [← hx] at hcell
      have hfin := hide (show cellT a (B : Int) = numB x by rw [cellT_cut HOK.out HIN.out hq'.out (by omega) (by omega), hx]; rfl)
      clear hx p1 p2 p3 p4 p5 hn2v hn1v
      go_wp2_with (first | (go_at_call 113; refine (l1In_any _ _ _ _).mono ?_; rintro e w' ⟨rfl, rfl⟩; rw [hin]))
      refine (specDigits_any x (by omega) (by omega) _).mono ?_
      rintro e w3 ⟨rfl, hb3⟩
      have hB3 := bthen hB2 hb3
      clear hb3
      go_wp2
      go_ret
      exact ⟨by rw [hfin.out]; rfl, hB3⟩
    · have hBn : B = n1 := by have := HZ.out; omega
      obtain ⟨ad, rfl, hab, hcell⟩ := (HV.out.cuts).at_ (k := n1 - 1) (by omega)
      obtain ⟨x, hx⟩ : ∃ x, x = a.cuts[n1 - 1]?.getD 0 := ⟨_, rfl⟩
      have hxb : -9999 ≤ x ∧ x ≤ 9998 := by rw [hx]; exact p5 (n1 - 1) (by omega)
      obtain ⟨x0, x1⟩ := hxb
      rw [← hx] at hcell
      have hfin := hide (show cellT a (B : Int) = numB (x + 1) by rw [cellT_end HOK.out HIN.out hq'.out (by omega) (by omega), hx, ← hn1v])
      have hn1p : 0 < n1 := by omega
      clear hx p1 p2 p3 p4 p5 hn2v hn1v
      subst hBn
      go_wp2_with (first | (go_at_call 113; refine (l1In_any _ _ _ _).mono ?_; rintro e w' ⟨rfl, rfl⟩; rw [hin]))
      refine (specDigits_any (x + 1) (by omega) (by omega) _).mono ?_
      rintro e w3 ⟨rfl, hb3⟩
      have hB3 := bthen hB2 hb3
      clear hb3
      go_wp2
      go_ret
      exact ⟨by rw [hfin.out]; rfl, hB3⟩

set_option maxHeartbeats 4000000 in
theorem implCellText_any (A1 : Option Addr) (n1 c1 : Nat) (A2 : Option Addr) (n2 c2 : Nat) (a : AttrD) (b : Int) (w : World) (h : AttrM w A1 n1 c1 A2 n2 c2 a) (ht : TabW w) :
    Calls Tryd.prog 46 #[.agg #[.string a.name, .slice A1 n1 c1, .slice A2 n2 c2], .int .i64 b] w fun e w' => e = .returned (.string (cellT a b)) ∧ Below w.heap.size w w' := by
  have hn1 := h.b1
  have hn2 := h.b2
  have hl1 := hide h.cuts.1
  have hl2 := hide h.vals.1
  have hbox : Below w.heap.size w (w.alloc (.cells #[.string a.name, .slice A1 n1 c1, .slice A2 n2 c2] 64)) := (Below.refl _ _).alloc (Nat.le_refl _) _
  have hX := Box3.new w (.string a.name) (.slice A1 n1 c1) (.slice A2 n2 c2) 64
  have HV := hide (h.keep hbox)
  have HT := hide (ht.keep hbox)
  clear ht
  clear h
  cases hok : attrB a
  · have hfin := hide (cellT_no1 (b := b) hok)
    go_enter Tryd.func46, Tryd.ntmps46
    go_wp2_with (fail)
    refine (implAttrOk_any A1 n1 c1 A2 n2 c2 a _ HV.out).mono ?_
    rintro e w1 ⟨rfl, hb1⟩
    rw [hok]
    have hB := bthen hbox hb1
    clear hb1 hX
    go_wp2
    go_ret
    exact ⟨by rw [hfin.out]; rfl, hB⟩
  have HOK := hide hok
  have HP := hide (attrB_parts hok)
  have hbin : 2 ≤ binsOf a ∧ binsOf a ≤ 4 := by rcases HP.out with h | h <;> omega
  obtain ⟨hb2, hb4⟩ := hbin
  obtain ⟨Z, hZ⟩ : ∃ Z, Z = binsOf a := ⟨_, rfl⟩
  rw [← hZ] at hb2 hb4
  have HZ := hide hZ
  have HN := hide (show binN n1 n2 = Z by rw [hZ, binsOf, if_pos hok, binN, ← hl1.out, ← hl2.out])
  clear hZ
  go_enter Tryd.func46, Tryd.ntmps46
  go_wp2_with (fail)
  refine (implAttrOk_any A1 n1 c1 A2 n2 c2 a _ HV.out).mono ?_
  rintro e w1 ⟨rfl, hb1⟩
  rw [hok]
  have hB := bthen hbox hb1
  replace hX := hX.keep hb1
  replace HV := hide (HV.out.keep hb1)
  replace HT := hide (HT.out.keep hb1)
  clear hb1 hbox hok
  obtain ⟨k0, k1, k2, k3⟩ := id hX
  go_wp2_with (fail)
  refine (bins_any A1 n1 c1 A2 n2 c2 a.name _ hn1).mono ?_
  rintro e w2 ⟨rfl, hb1⟩
  rw [HN.out]
  have hB2 := bthen hB hb1
  replace hX := hX.keep hb1
  replace HV := hide (HV.out.keep hb1)
  replace HT := hide (HT.out.keep hb1)
  clear hb1 hB k0 k1 k2 k3
  obtain ⟨k0, k1, k2, k3⟩ := id hX
  cases hin : inB b (-1) (Z - 1)
  · have hfin := hide (cellT_no2 (a := a) (b := b) (by rw [← HZ.out]; exact hin))
    go_wp2_with (first | (go_at_call 103; refine (within_any _ _ _ _).mono ?_; rintro e w' ⟨rfl, rfl⟩; rw [hin]))
    go_ret
    exact ⟨by rw [hfin.out]; rfl, hB2⟩
  have HIN := hide (show inB b (-1) (binsOf a - 1) = true by rw [← HZ.out]; exact hin)
  obtain ⟨b0, b1⟩ := inB_iff.1 hin
  by_cases hq : b = -1
  · have hfin := hide (cellT_open HOK.out HIN.out hq)
    have hqb : (b == -1) = true := by simp [hq]
    clear hq
    go_wp2_with (first | (go_at_call 103; refine (within_any _ _ _ _).mono ?_; rintro e w' ⟨rfl, rfl⟩; rw [hin]))
    go_ret
    exact ⟨by rw [hfin.out]; rfl, hB2⟩
  obtain ⟨B, rfl⟩ : ∃ B : Nat, b = B := ⟨b.toNat, by omega⟩
  have hqb : ((B : Int) == -1) = false := beq_eq_false_iff_ne.2 hq
  have hq' := hide hq
  clear hq b0
  rcases HP.out with ⟨p1, p2, p3, p4⟩ | ⟨p1, p2, p3, p4, p5⟩
  · have e1 : n1 = 0 := by rw [hl1.out, p1]
    have hn2v := hl2.out
    have hBn : B < n2 := by have := HZ.out; omega
    have hv0 : 0 < n2 := by omega
    obtain ⟨ad, rfl, hab, hcell⟩ := (HV.out.vals).at_ hBn
    obtain ⟨S, hS⟩ : ∃ S, S = a.vals[B]?.getD ByteArray.empty := ⟨_, rfl⟩
    rw [← hS] at hcell
    have hfin := hide (show cellT a (B : Int) = S by rw [cellT_val HOK.out HIN.out hq'.out (by omega), hS]; rfl)
    clear hS p1 p2 p3 p4 hn2v e1
    go_wp2_with (first | (go_at_call 103; refine (within_any _ _ _ _).mono ?_; rintro e w' ⟨rfl, rfl⟩; rw [hin]))
    go_ret
    exact ⟨by rw [hfin.out]; rfl, hB2⟩
  · have hn2v := hl2.out
    have hn1v := hl1.out
    obtain rfl : n2 = 0 := by omega
    have hP5 := hide p5
    by_cases hc : B < n1
    · obtain ⟨ad, rfl, hab, hcell⟩ := (HV.out.cuts).at_ hc
      obtain ⟨x, hx⟩ : ∃ x, x = a.cuts[B]?.getD 0 := ⟨_, rfl⟩
      have hxb : -9999 ≤ x ∧ x ≤ 9998 := by rw [hx]; exact p5 B (by omega)
      obtain ⟨x0, x1⟩ := hxb
      rw [← hx] at hcell
      have hfin := hide (show cellT a (B : Int) = numB x by rw [cellT_cut HOK.out HIN.out hq'.out (by omega) (by omega), hx]; rfl)
      clear hx p1 p2 p3 p4 p5 hn2v hn1v
      go_wp2_with (first | (go_at_call 103; refine (within_any _ _ _ _).mono ?_; rintro e w' ⟨rfl, rfl⟩; rw [hin]))
      refine (implDigits_any x (by omega) (by omega) _ HT.out).mono ?_
      rintro e w3 ⟨rfl, hb3⟩
      have hB3 := bthen hB2 hb3
      clear hb3
      go_wp2
      go_ret
      exact ⟨by rw [hfin.out]; rfl, hB3⟩
    · have hBn : B = n1 := by have := HZ.out; omega
      obtain ⟨ad, rfl, hab, hcell⟩ := (HV.out.cuts).at_ (k := n1 - 1) (by omega)
      obtain ⟨x, hx⟩ : ∃ x, x = a.cuts[n1 - 1]?.getD 0 := ⟨_, rfl⟩
      have hxb : -9999 ≤ x ∧ x ≤ 9998 := by rw [hx]; exact p5 (n1 - 1) (by omega)
      obtain ⟨x0, x1⟩ := hxb
      rw [← hx] at hcell
      have hfin := hide (show cellT a (B : Int) = numB (x + 1) by rw [cellT_end HOK.out HIN.out hq'.out (by omega) (by omega), hx, ← hn1v])
      have hn1p : 0 < n1 := by omega
      clear hx p1 p2 p3 p4 p5 hn2v hn1v
      subst hBn
      go_wp2_with (first | (go_at_call 103; refine (within_any _ _ _ _).mono ?_; rintro e w' ⟨rfl, rfl⟩; rw [hin]))
      refine (implDigits_any (x + 1) (by omega) (by omega) _ HT.out).mono ?_
      rintro e w3 ⟨rfl, hb3⟩
      have hB3 := bthen hB2 hb3
      clear hb3
      go_wp2
      go_ret
      exact ⟨by rw [hfin.out]; rfl, hB3⟩
end Go.Proofs.YtohodehmidbmlaaDoor
