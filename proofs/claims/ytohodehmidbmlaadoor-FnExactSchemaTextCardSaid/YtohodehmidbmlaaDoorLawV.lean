/-
  The law FnExactSchemaText.
-/
import Derived.Test.YtohodehmidbmlaaDoorSText
import Derived.Test.YtohodehmidbmlaaDoorSchema6
namespace Go.Proofs.YtohodehmidbmlaaDoor
open Go.RowKit

set_option maxRecDepth 100000 in
set_option maxHeartbeats 4000000 in
theorem fnExactSchemaText_walk (w : World) (x00 x01 : Value) (d0 : SchemaD) (h0 : SchemaI w x00 x01 d0) (ht : TabW w) :
    Calls Tryd.prog 13 #[.agg #[x00, x01]] w fun e w' => e = .returned (.bool true) ∧ Below w.heap.size w w' := by
  have hX0 := Box2.new w x00 x01 25
  have hB : Below w.heap.size w (w.alloc (.cells #[x00, x01] 25)) := (Below.refl _ _).alloc (Nat.le_refl _) _
  have HI0 := hide h0
  have HT := hide ht
  clear ht
  clear h0
  go_enter Tryd.func13, Tryd.ntmps13
  obtain ⟨k00, k01, k02⟩ := id hX0
  go_wp2_with (fail)
  refine (szSchema_any x00 x01 d0 _ _ (HI0.out.keep hB) (by omega) (by omega)).mono ?_
  rintro e s0 ⟨r0, rfl, hr, hb⟩
  clear k00 k01 k02
  replace hB := bthen hB hb
  replace hX0 := hX0.keep hb
  clear hb
  rcases hr with rfl | ⟨hr00, hr01⟩
  · go_wp2
    go_ret
    exact ⟨rfl, hB⟩
  have HM0 := hide (HI0.out.small (by omega))
  clear hr01
  obtain ⟨k00, k01, k02⟩ := id hX0
  go_wp2_with (fail)
  refine (toSchema_any x00 x01 d0 _ (HM0.out.keep hB)).mono ?_
  rintro e t0 ⟨y0, y1, rfl, hm, hb⟩
  clear k00 k01 k02
  replace hB := bthen hB hb
  replace hX0 := hX0.keep hb
  clear hb
  have HY := hide hm
  clear hm
  go_wp2_with (fail)
  refine (specSchemaText_any _ _ d0 _ HY.out).mono ?_
  rintro e t2 ⟨rfl, hb⟩
  replace hB := bthen hB hb
  replace hX0 := hX0.keep hb
  clear hb
  clear HY
  obtain ⟨k00, k01, k02⟩ := id hX0
  go_wp2_with (fail)
  refine (toSchema_any x00 x01 d0 _ (HM0.out.keep hB)).mono ?_
  rintro e u0 ⟨p00, p01, rfl, hp, hb⟩
  clear k00 k01 k02
  replace hB := bthen hB hb
  replace hX0 := hX0.keep hb
  clear hb
  have hal : Below u0.heap.size u0 (u0.alloc (.cells #[p00, p01] 35)) := (Below.refl _ _).alloc (Nat.le_refl _) _
  obtain ⟨g0, g1⟩ := hp.one
  have st0 := fun (W : World) (a : Addr) (m : Mode) => run_store_of (P := Tryd.prog) W a m g0
  have st1 := fun (W : World) (a : Addr) (m : Mode) => run_store_of (P := Tryd.prog) W a m g1
  clear g0 g1
  have HP0 := hide hp
  clear hp
  have hZ0 := Box2.new u0 p00 p01 35
  replace hB := bthen hB hal
  replace hX0 := hX0.keep hal
  replace HP0 := hide (HP0.out.keep hal)
  clear hal
  obtain ⟨k00, k01, k02⟩ := id hZ0
  go_wp2_with (fail)
  refine (implSchemaText_any _ _ d0 _ HP0.out (HT.out.keep hB)).mono ?_
  rintro e v0 ⟨rfl, hb⟩
  clear k00 k01 k02
  replace hB := bthen hB hb
  replace hX0 := hX0.keep hb
  replace hZ0 := hZ0.keep hb
  replace HP0 := hide (HP0.out.keep hb)
  clear hb
  have hne : ((schemaT d0).toList == (schemaT d0).toList) = true := by simp
  obtain ⟨k00, k01, k02⟩ := id hZ0
  obtain ⟨k10, k11, k12⟩ := id hX0
  go_wp2
  clear k00 k01 k02 k10 k11 k12
  have HS := Held22.of hZ0 hX0 (Below.refl _ v0)
  unfold Held22 at HS
  go_region_held3 (fun W => W.cell? ⟨u0.heap.size, 0, none⟩ = some p00 ∧ W.cell? ⟨u0.heap.size, 1, none⟩ = some p01 ∧ W.cell? ⟨w.heap.size, 0, none⟩ = some x00 ∧ W.cell? ⟨w.heap.size, 1, none⟩ = some x01 ∧ u0.heap.size < W.heap.size ∧ w.heap.size < W.heap.size ∧ Below v0.heap.size v0 W) (first | assumption | exact Held22.keep (by assumption) (by assumption) | exact Held22.drew (by assumption)) (first | (go_at_call 21; refine (toSchema_any x00 x01 d0 _ (HM0.out.keep (bthen hB (Held22.below (by assumption))))).mono ?_; rintro e o0 ⟨y0, y1, rfl, hm, hb⟩) | (go_at_call 25; refine (eqSchema_any _ _ _ _ d0 _ (HP0.out.keep (Held22.below (by assumption))) (by assumption)).mono ?_; rintro e q0 ⟨rfl, hb2⟩))
  have hH : Held22 v0 (u0.heap.size) (w.heap.size) (p00) (p01) (x00) (x01) q0 := by assumption
  replace hH := hH.below
  clear HS
  replace hB := bthen hB hH
  replace hX0 := hX0.keep hH
  replace hZ0 := hZ0.keep hH
  replace HP0 := hide (HP0.out.keep hH)
  clear hH
  go_wp2
  go_ret
  exact ⟨rfl, hB⟩
end Go.Proofs.YtohodehmidbmlaaDoor
