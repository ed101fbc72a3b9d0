/-
  The law FnExactCellText.
-/
import Derived.Test.YtohodehmidbmlaaDoorCell
namespace Go.Proofs.YtohodehmidbmlaaDoor
open Go.RowKit

set_option maxRecDepth 100000 in
set_option maxHeartbeats 4000000 in
theorem fnExactCellText_walk (w : World) (A1 : Option Addr) (n1 c1 : Nat) (A2 : Option Addr) (n2 c2 : Nat) (a : AttrD) (h : AttrI w A1 n1 c1 A2 n2 c2 a) (xk : Int) (_ : (Lit.int .i64 xk).wf = true) (ht : TabW w) :
    Calls Tryd.prog 8 #[.agg #[.string a.name, .slice A1 n1 c1, .slice A2 n2 c2], .int .i64 xk] w fun e w' => e = .returned (.bool true) ∧ Below w.heap.size w w' := by
  have hbox : Below w.heap.size w (w.alloc (.cells #[.string a.name, .slice A1 n1 c1, .slice A2 n2 c2] 61)) := (Below.refl _ _).alloc (Nat.le_refl _) _
  have HI := hide h
  have hX := Box3.new w (.string a.name) (.slice A1 n1 c1) (.slice A2 n2 c2) 61
  have HT := hide ht
  clear ht
  clear h
  go_enter Tryd.func8, Tryd.ntmps8
  go_wp2_with (fail)
  refine (szAttr_any A1 n1 c1 A2 n2 c2 a _ _ (HI.out.keep hbox) (by omega) (by omega)).mono ?_
  rintro e w1 ⟨r, rfl, hr, hb1⟩
  have hB1 := bthen hbox hb1
  have hX1 := hX.keep hb1
  clear hX hb1
  rcases hr with rfl | ⟨hr0, hr1⟩
  · go_wp2
    go_ret
    exact ⟨rfl, hB1⟩
  · have HM := hide (HI.out.small (by omega))
    clear hr1
    obtain ⟨k0, k1, k2, -⟩ := id hX1
    go_wp2_with (fail)
    refine (toAttr_any A1 n1 c1 A2 n2 c2 a _ (HM.out.keep hB1)).mono ?_
    rintro e w2 ⟨E1, f1, E2, f2, rfl, hm2, -, -, hb2⟩
    have hB2 := bthen hB1 hb2
    have hX2 := hX1.keep hb2
    clear hX1 k0 k1 k2 hb2
    have HM2 := hide hm2
    clear hm2
    go_wp2_with (fail)
    refine (specCellText_any _ _ _ _ _ _ a xk _ HM2.out).mono ?_
    rintro e w3 ⟨rfl, hb3⟩
    have hB3 := bthen hB2 hb3
    have hX3 := hX2.keep hb3
    clear hX2 hb3 HM2
    obtain ⟨k0, k1, k2, -⟩ := id hX3
    go_wp2_with (fail)
    refine (toAttr_any A1 n1 c1 A2 n2 c2 a _ (HM.out.keep hB3)).mono ?_
    rintro e w4 ⟨D1, m1, D2, m2, rfl, hm4, -, -, hb4⟩
    have hB4 := bthen hB3 hb4
    have hX4 := hX3.keep hb4
    clear hX3 k0 k1 k2 hb4
    have hal : Below w4.heap.size w4 (w4.alloc (.cells #[.string a.name, .slice D1 n1 m1, .slice D2 n2 m2] 64)) := (Below.refl _ _).alloc (Nat.le_refl _) _
    have hB4' := bthen hB4 hal
    have hX4' := hX4.keep hal
    have hY4' := Box3.new w4 (.string a.name) (.slice D1 n1 m1) (.slice D2 n2 m2) 64
    have HM4 := hide (hm4.keep hal)
    clear hm4 hal hX4
    go_wp2_with (fail)
    refine (implCellText_any _ _ _ _ _ _ a xk _ HM4.out (HT.out.keep hB4')).mono ?_
    rintro e w5 ⟨rfl, hb5⟩
    have hB5 := bthen hB4' hb5
    have hX5 := hX4'.keep hb5
    have hY5 := hY4'.keep hb5
    have HM5 := hide (HM4.out.keep hb5)
    have HS := Held33.of hX5 hY5 (Below.refl _ w5)
    clear hX4' hY4' hb5 HM4 hX5 hY5
    have hne : ((cellT a xk).toList == (cellT a xk).toList) = true := by simp
    go_wp2
    unfold Held33 at HS
    go_region_held3 (fun W => W.cell? ⟨w.heap.size, 0, none⟩ = some (.string a.name) ∧ W.cell? ⟨w.heap.size, 1, none⟩ = some (.slice A1 n1 c1) ∧ W.cell? ⟨w.heap.size, 2, none⟩ = some (.slice A2 n2 c2) ∧ W.cell? ⟨w4.heap.size, 0, none⟩ = some (.string a.name) ∧ W.cell? ⟨w4.heap.size, 1, none⟩ = some (.slice D1 n1 m1) ∧ W.cell? ⟨w4.heap.size, 2, none⟩ = some (.slice D2 n2 m2) ∧ w.heap.size < W.heap.size ∧ w4.heap.size < W.heap.size ∧ Below w5.heap.size w5 W) (first | assumption | exact Held33.keep (by assumption) (by assumption) | exact Held33.drew (by assumption)) (first | (go_at_call 45; refine (toAttr_any A1 n1 c1 A2 n2 c2 a _ (HM.out.keep (bthen hB5 (Held33.below (by assumption))))).mono ?_; rintro e w6 ⟨G1, g1, G2, g2, rfl, hm6, -, -, hb6⟩) | (go_at_call 47; refine (eqAttr_any _ _ _ _ _ _ _ _ _ _ _ _ a _ (HM5.out.keep (Held33.below (by assumption))) (by assumption)).mono ?_; rintro e w7 ⟨rfl, hb7⟩))
    have hbw := (‹_ ∧ _ ∧ _ ∧ _ ∧ _ ∧ _ ∧ _ ∧ _ ∧ Below w5.heap.size w5 w7› : _ ∧ _ ∧ _ ∧ _ ∧ _ ∧ _ ∧ _ ∧ _ ∧ Below w5.heap.size w5 w7).2.2.2.2.2.2.2.2
    go_wp2
    go_ret
    exact ⟨rfl, bthen hB5 hbw⟩
end Go.Proofs.YtohodehmidbmlaaDoor
