/-
  The laws FnExactAttrOk, FnExactBins.
-/
import Derived.Test.YtnnhngdconbbfaaAttr3
import Derived.Deep.RegionHeld3
namespace Go.Proofs.Ytnnhngdconbbfaa
open Go.RowKit

/-- A box of three cells. -/
structure Box3 (w : World) (b : Nat) (x y z : Value) : Prop where
  c0 : w.cell? ⟨b, 0, none⟩ = some x
  c1 : w.cell? ⟨b, 1, none⟩ = some y
  c2 : w.cell? ⟨b, 2, none⟩ = some z
  lt : b < w.heap.size
theorem Box3.keep {w w' : World} {b : Nat} {x y z : Value} (h : Box3 w b x y z) (hb : Below w.heap.size w w') : Box3 w' b x y z :=
  ⟨(hb.cell (p := ⟨b, 0, none⟩) h.lt).trans h.c0, (hb.cell (p := ⟨b, 1, none⟩) h.lt).trans h.c1, (hb.cell (p := ⟨b, 2, none⟩) h.lt).trans h.c2, Nat.lt_of_lt_of_le h.lt hb.size⟩
theorem Box3.new (w : World) (x y z : Value) (t : TypeId) : Box3 (w.alloc (.cells #[x, y, z] t)) w.heap.size x y z := by
  refine ⟨?_, ?_, ?_, by simp⟩ <;> go_simp

/-- What a region holds: two boxes of three, and that it only grew. -/
def Held33 (w : World) (b1 b2 : Nat) (x0 x1 x2 y0 y1 y2 : Value) (W : World) : Prop :=
  W.cell? ⟨b1, 0, none⟩ = some x0 ∧ W.cell? ⟨b1, 1, none⟩ = some x1 ∧ W.cell? ⟨b1, 2, none⟩ = some x2 ∧ W.cell? ⟨b2, 0, none⟩ = some y0 ∧ W.cell? ⟨b2, 1, none⟩ = some y1 ∧ W.cell? ⟨b2, 2, none⟩ = some y2 ∧
    b1 < W.heap.size ∧ b2 < W.heap.size ∧ Below w.heap.size w W
theorem Held33.keep {w W W1 : World} {b1 b2 : Nat} {x0 x1 x2 y0 y1 y2 : Value} (hb : Below W.heap.size W W1) (h : Held33 w b1 b2 x0 x1 x2 y0 y1 y2 W) : Held33 w b1 b2 x0 x1 x2 y0 y1 y2 W1 := by
  obtain ⟨h0, h1, h2, h3, h4, h5, h6, h7, h8⟩ := h
  exact ⟨(hb.cell (p := ⟨b1, 0, none⟩) h6).trans h0, (hb.cell (p := ⟨b1, 1, none⟩) h6).trans h1, (hb.cell (p := ⟨b1, 2, none⟩) h6).trans h2, (hb.cell (p := ⟨b2, 0, none⟩) h7).trans h3, (hb.cell (p := ⟨b2, 1, none⟩) h7).trans h4, (hb.cell (p := ⟨b2, 2, none⟩) h7).trans h5,
    Nat.lt_of_lt_of_le h6 hb.size, Nat.lt_of_lt_of_le h7 hb.size, h8.trans (hb.mono h8.size)⟩
theorem Held33.drew {w W : World} {b1 b2 : Nat} {x0 x1 x2 y0 y1 y2 : Value} (h : Held33 w b1 b2 x0 x1 x2 y0 y1 y2 W) : Held33 w b1 b2 x0 x1 x2 y0 y1 y2 W.drew := Held33.keep (Below.refl _ _).drew h
theorem Held33.below {w W : World} {b1 b2 : Nat} {x0 x1 x2 y0 y1 y2 : Value} (h : Held33 w b1 b2 x0 x1 x2 y0 y1 y2 W) : Below w.heap.size w W := h.2.2.2.2.2.2.2.2
theorem Held33.of {w W : World} {b1 b2 : Nat} {x0 x1 x2 y0 y1 y2 : Value} (h1 : Box3 W b1 x0 x1 x2) (h2 : Box3 W b2 y0 y1 y2) (h : Below w.heap.size w W) : Held33 w b1 b2 x0 x1 x2 y0 y1 y2 W :=
  ⟨h1.c0, h1.c1, h1.c2, h2.c0, h2.c1, h2.c2, h1.lt, h2.lt, h⟩

set_option maxRecDepth 100000 in
set_option maxHeartbeats 2000000 in
theorem fnExactAttrOk_walk (w : World) (A1 : Option Addr) (n1 c1 : Nat) (A2 : Option Addr) (n2 c2 : Nat) (a : AttrD) (h : AttrI w A1 n1 c1 A2 n2 c2 a) :
    Calls Try.prog 24 #[.agg #[.string a.name, .slice A1 n1 c1, .slice A2 n2 c2]] w fun e w' => e = .returned (.bool true) ∧ Below w.heap.size w w' := by
  have hbox : Below w.heap.size w (w.alloc (.cells #[.string a.name, .slice A1 n1 c1, .slice A2 n2 c2] 84)) := (Below.refl _ _).alloc (Nat.le_refl _) _
  have HI := hide h
  have hX := Box3.new w (.string a.name) (.slice A1 n1 c1) (.slice A2 n2 c2) 84
  clear h
  go_enter Try.func24, Try.ntmps24
  go_wp2_with (fail)
  refine (szAttr_any A1 n1 c1 A2 n2 c2 a _ _ (HI.out.keep hbox) (by omega) (by omega)).mono ?_
  rintro e w1 ⟨r, rfl, hr, hb1⟩
  have hB1 := bthen hbox hb1
  have hX1 := hX.keep hb1
  clear hX hb1
  rcases hr with rfl | ⟨hr0, hr1⟩
  · go_wp2
    go_ret
    exact ⟨rfl, hB1⟩
  · have HM := hide (HI.out.small (by omega))
    clear hr1
    obtain ⟨k0, k1, k2, -⟩ := id hX1
    go_wp2_with (fail)
    refine (toAttr_any A1 n1 c1 A2 n2 c2 a _ (HM.out.keep hB1)).mono ?_
    rintro e w2 ⟨E1, f1, E2, f2, rfl, hm2, -, -, hb2⟩
    have hB2 := bthen hB1 hb2
    have hX2 := hX1.keep hb2
    clear hX1 k0 k1 k2 hb2
    have HM2 := hide hm2
    clear hm2
    go_wp2_with (fail)
    refine (specAttrOk_any _ _ _ _ _ _ a _ HM2.out).mono ?_
    rintro e w3 ⟨rfl, hb3⟩
    have hB3 := bthen hB2 hb3
    have hX3 := hX2.keep hb3
    clear hX2 hb3 HM2
    obtain ⟨k0, k1, k2, -⟩ := id hX3
    go_wp2_with (fail)
    refine (toAttr_any A1 n1 c1 A2 n2 c2 a _ (HM.out.keep hB3)).mono ?_
    rintro e w4 ⟨D1, m1, D2, m2, rfl, hm4, -, -, hb4⟩
    have hB4 := bthen hB3 hb4
    have hX4 := hX3.keep hb4
    clear hX3 k0 k1 k2 hb4
    have hal : Below w4.heap.size w4 (w4.alloc (.cells #[.string a.name, .slice D1 n1 m1, .slice D2 n2 m2] 87)) := (Below.refl _ _).alloc (Nat.le_refl _) _
    have hB4' := bthen hB4 hal
    have hX4' := hX4.keep hal
    have hY4' := Box3.new w4 (.string a.name) (.slice D1 n1 m1) (.slice D2 n2 m2) 87
    have HM4 := hide (hm4.keep hal)
    clear hm4 hal hX4
    go_wp2_with (fail)
    refine (implAttrOk_any _ _ _ _ _ _ a _ HM4.out).mono ?_
    rintro e w5 ⟨rfl, hb5⟩
    have hB5 := bthen hB4' hb5
    have hX5 := hX4'.keep hb5
    have hY5 := hY4'.keep hb5
    have HM5 := hide (HM4.out.keep hb5)
    have HS := Held33.of hX5 hY5 (Below.refl _ w5)
    clear hX4' hY4' hb5 HM4 hX5 hY5
    have hne : (attrB a != attrB a) = false := by simp
    go_wp2
    unfold Held33 at HS
    go_region_held3 (fun W => W.cell? ⟨w.heap.size, 0, none⟩ = some (.string a.name) ∧ W.cell? ⟨w.heap.size, 1, none⟩ = some (.slice A1 n1 c1) ∧ W.cell? ⟨w.heap.size, 2, none⟩ = some (.slice A2 n2 c2) ∧ W.cell? ⟨w4.heap.size, 0, none⟩ = some (.string a.name) ∧ W.cell? ⟨w4.heap.size, 1, none⟩ = some (.slice D1 n1 m1) ∧ W.cell? ⟨w4.heap.size, 2, none⟩ = some (.slice D2 n2 m2) ∧ w.heap.size < W.heap.size ∧ w4.heap.size < W.heap.size ∧ Below w5.heap.size w5 W) (first | assumption | exact Held33.keep (by assumption) (by assumption) | exact Held33.drew (by assumption)) (first | (go_at_call 99; refine (toAttr_any A1 n1 c1 A2 n2 c2 a _ (HM.out.keep (bthen hB5 (Held33.below (by assumption))))).mono ?_; rintro e w6 ⟨G1, g1, G2, g2, rfl, hm6, -, -, hb6⟩) | (go_at_call 101; refine (eqAttr_any _ _ _ _ _ _ _ _ _ _ _ _ a _ (HM5.out.keep (Held33.below (by assumption))) (by assumption)).mono ?_; rintro e w7 ⟨rfl, hb7⟩))
    have hbw := (‹_ ∧ _ ∧ _ ∧ _ ∧ _ ∧ _ ∧ _ ∧ _ ∧ Below w5.heap.size w5 w7› : _ ∧ _ ∧ _ ∧ _ ∧ _ ∧ _ ∧ _ ∧ _ ∧ Below w5.heap.size w5 w7).2.2.2.2.2.2.2.2
    go_wp2
    go_ret
    exact ⟨rfl, bthen hB5 hbw⟩
set_option maxRecDepth 100000 in
set_option maxHeartbeats 2000000 in
theorem fnExactBins_walk (w : World) (A1 : Option Addr) (n1 c1 : Nat) (A2 : Option Addr) (n2 c2 : Nat) (a : AttrD) (h : AttrI w A1 n1 c1 A2 n2 c2 a) :
    Calls Try.prog 26 #[.agg #[.string a.name, .slice A1 n1 c1, .slice A2 n2 c2]] w fun e w' => e = .returned (.bool true) ∧ Below w.heap.size w w' := by
  have hbox : Below w.heap.size w (w.alloc (.cells #[.string a.name, .slice A1 n1 c1, .slice A2 n2 c2] 84)) := (Below.refl _ _).alloc (Nat.le_refl _) _
  have HI := hide h
  have hX := Box3.new w (.string a.name) (.slice A1 n1 c1) (.slice A2 n2 c2) 84
  clear h
  go_enter Try.func26, Try.ntmps26
  go_wp2_with (fail)
  refine (szAttr_any A1 n1 c1 A2 n2 c2 a _ _ (HI.out.keep hbox) (by omega) (by omega)).mono ?_
  rintro e w1 ⟨r, rfl, hr, hb1⟩
  have hB1 := bthen hbox hb1
  have hX1 := hX.keep hb1
  clear hX hb1
  rcases hr with rfl | ⟨hr0, hr1⟩
  · go_wp2
    go_ret
    exact ⟨rfl, hB1⟩
  · have HM := hide (HI.out.small (by omega))
    clear hr1
    obtain ⟨k0, k1, k2, -⟩ := id hX1
    go_wp2_with (fail)
    refine (toAttr_any A1 n1 c1 A2 n2 c2 a _ (HM.out.keep hB1)).mono ?_
    rintro e w2 ⟨E1, f1, E2, f2, rfl, hm2, -, -, hb2⟩
    have hB2 := bthen hB1 hb2
    have hX2 := hX1.keep hb2
    clear hX1 k0 k1 k2 hb2
    have HM2 := hide hm2
    clear hm2
    go_wp2_with (fail)
    refine (specBins_any _ _ _ _ _ _ a _ HM2.out).mono ?_
    rintro e w3 ⟨rfl, hb3⟩
    have hB3 := bthen hB2 hb3
    have hX3 := hX2.keep hb3
    clear hX2 hb3 HM2
    obtain ⟨k0, k1, k2, -⟩ := id hX3
    go_wp2_with (fail)
    refine (toAttr_any A1 n1 c1 A2 n2 c2 a _ (HM.out.keep hB3)).mono ?_
    rintro e w4 ⟨D1, m1, D2, m2, rfl, hm4, -, -, hb4⟩
    have hB4 := bthen hB3 hb4
    have hX4 := hX3.keep hb4
    clear hX3 k0 k1 k2 hb4
    have hal : Below w4.heap.size w4 (w4.alloc (.cells #[.string a.name, .slice D1 n1 m1, .slice D2 n2 m2] 87)) := (Below.refl _ _).alloc (Nat.le_refl _) _
    have hB4' := bthen hB4 hal
    have hX4' := hX4.keep hal
    have hY4' := Box3.new w4 (.string a.name) (.slice D1 n1 m1) (.slice D2 n2 m2) 87
    have HM4 := hide (hm4.keep hal)
    clear hm4 hal hX4
    go_wp2_with (fail)
    refine (implBins_any _ _ _ _ _ _ a _ HM4.out).mono ?_
    rintro e w5 ⟨rfl, hb5⟩
    have hB5 := bthen hB4' hb5
    have hX5 := hX4'.keep hb5
    have hY5 := hY4'.keep hb5
    have HM5 := hide (HM4.out.keep hb5)
    have HS := Held33.of hX5 hY5 (Below.refl _ w5)
    clear hX4' hY4' hb5 HM4 hX5 hY5
    have hne : (binsOf a != binsOf a) = false := by simp
    go_wp2
    unfold Held33 at HS
    go_region_held3 (fun W => W.cell? ⟨w.heap.size, 0, none⟩ = some (.string a.name) ∧ W.cell? ⟨w.heap.size, 1, none⟩ = some (.slice A1 n1 c1) ∧ W.cell? ⟨w.heap.size, 2, none⟩ = some (.slice A2 n2 c2) ∧ W.cell? ⟨w4.heap.size, 0, none⟩ = some (.string a.name) ∧ W.cell? ⟨w4.heap.size, 1, none⟩ = some (.slice D1 n1 m1) ∧ W.cell? ⟨w4.heap.size, 2, none⟩ = some (.slice D2 n2 m2) ∧ w.heap.size < W.heap.size ∧ w4.heap.size < W.heap.size ∧ Below w5.heap.size w5 W) (first | assumption | exact Held33.keep (by assumption) (by assumption) | exact Held33.drew (by assumption)) (first | (go_at_call 99; refine (toAttr_any A1 n1 c1 A2 n2 c2 a _ (HM.out.keep (bthen hB5 (Held33.below (by assumption))))).mono ?_; rintro e w6 ⟨G1, g1, G2, g2, rfl, hm6, -, -, hb6⟩) | (go_at_call 101; refine (eqAttr_any _ _ _ _ _ _ _ _ _ _ _ _ a _ (HM5.out.keep (Held33.below (by assumption))) (by assumption)).mono ?_; rintro e w7 ⟨rfl, hb7⟩))
    have hbw := (‹_ ∧ _ ∧ _ ∧ _ ∧ _ ∧ _ ∧ _ ∧ _ ∧ Below w5.heap.size w5 w7› : _ ∧ _ ∧ _ ∧ _ ∧ _ ∧ _ ∧ _ ∧ _ ∧ Below w5.heap.size w5 w7).2.2.2.2.2.2.2.2
    go_wp2
    go_ret
    exact ⟨rfl, bthen hB5 hbw⟩
end Go.Proofs.Ytnnhngdconbbfaa
