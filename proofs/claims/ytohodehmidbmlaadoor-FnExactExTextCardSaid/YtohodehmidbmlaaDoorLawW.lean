/-
  The law FnExactExText.
-/
import Derived.Test.YtohodehmidbmlaaDoorEText2
import Derived.Test.YtohodehmidbmlaaDoorSchema6
import Derived.Test.YtohodehmidbmlaaDoorEx2
namespace Go.Proofs.YtohodehmidbmlaaDoor
open Go.RowKit

set_option maxRecDepth 100000 in
set_option maxHeartbeats 4000000 in
theorem fnExactExText_walk (w : World) (x00 x01 : Value) (d0 : SchemaD) (h0 : SchemaI w x00 x01 d0) (x10 x11 : Value) (d1 : ExD) (h1 : ExI w x10 x11 d1) (ht : TabW w) :
    Calls Tryd.prog 14 #[.agg #[x00, x01], .agg #[x10, x11]] w fun e w' => e = .returned (.bool true) ∧ Below w.heap.size w w' := by
  have hX0 := Box2.new w x00 x01 25
  have hX1 := Box2.new (w.alloc (.cells #[x00, x01] 25)) x10 x11 80
  replace hX0 := hX0.keep (Below.alloc (Below.refl _ (w.alloc (.cells #[x00, x01] 25))) (Nat.le_refl _) (.cells #[x10, x11] 80))
  have hB : Below w.heap.size w ((w.alloc (.cells #[x00, x01] 25)).alloc (.cells #[x10, x11] 80)) := ((Below.refl _ _).alloc (Nat.le_refl _) _).alloc (by simp) _
  have hz : (w.alloc (.cells #[x00, x01] 25)).heap.size = w.heap.size + 1 := by simp
  rw [hz] at hX1
  clear hz
  have HI0 := hide h0
  have HI1 := hide h1
  have HT := hide ht
  clear ht
  clear h0 h1
  go_enter Tryd.func14, Tryd.ntmps14
  obtain ⟨k00, k01, k02⟩ := id hX0
  go_wp2_with (fail)
  refine (szSchema_any x00 x01 d0 _ _ (HI0.out.keep hB) (by omega) (by omega)).mono ?_
  rintro e s0 ⟨r0, rfl, hr, hb⟩
  clear k00 k01 k02
  replace hB := bthen hB hb
  replace hX0 := hX0.keep hb
  replace hX1 := hX1.keep hb
  clear hb
  rcases hr with rfl | ⟨hr00, hr01⟩
  · go_wp2
    go_ret
    exact ⟨rfl, hB⟩
  obtain ⟨k00, k01, k02⟩ := id hX1
  go_wp2_with (fail)
  refine (szEx_any x10 x11 d1 _ _ (HI1.out.keep hB) (by omega) (by omega)).mono ?_
  rintro e s1 ⟨r1, rfl, hr, hb⟩
  clear k00 k01 k02
  replace hB := bthen hB hb
  replace hX0 := hX0.keep hb
  replace hX1 := hX1.keep hb
  clear hb
  rcases hr with rfl | ⟨hr10, hr11⟩
  · go_wp2
    go_ret
    exact ⟨rfl, hB⟩
  have HM0 := hide (HI0.out.small (by omega))
  have HM1 := hide (HI1.out.small (by omega))
  clear hr01 hr11
  obtain ⟨k00, k01, k02⟩ := id hX0
  obtain ⟨k10, k11, k12⟩ := id hX1
  go_wp2
  clear k00 k01 k02 k10 k11 k12
  have HS := Held22.of hX0 hX1 (Below.refl _ s1)
  unfold Held22 at HS
  go_region_held3 (fun W => W.cell? ⟨w.heap.size, 0, none⟩ = some x00 ∧ W.cell? ⟨w.heap.size, 1, none⟩ = some x01 ∧ W.cell? ⟨w.heap.size + 1, 0, none⟩ = some x10 ∧ W.cell? ⟨w.heap.size + 1, 1, none⟩ = some x11 ∧ w.heap.size < W.heap.size ∧ w.heap.size + 1 < W.heap.size ∧ Below s1.heap.size s1 W) (first | assumption | exact Held22.keep (by assumption) (by assumption) | exact Held22.drew (by assumption)) (first | (go_at_call 21; refine (toSchema_any _ _ _ _ (by first | exact HM0.out.keep (bthen hB (Held22.below (by assumption))))).mono ?_; rintro e t0 ⟨y0, y1, rfl, hm, hb⟩) | (go_at_call 64; refine (toEx_any _ _ _ _ (by first | exact HM1.out.keep (bthen hB (Held22.below (by assumption))))).mono ?_; rintro e t0 ⟨y0, y1, rfl, hm, hb⟩) | (go_at_call 63; refine (specExText_any _ _ _ _ d0 d1 _ (by first | assumption | exact SchemaM.keep (by assumption) (by assumption)) (by first | assumption | exact ExM.keep (by assumption) (by assumption))).mono ?_; rintro e t2 ⟨rfl, hb2⟩))
  all_goals
    have hH : Held22 s1 (w.heap.size) (w.heap.size + 1) (x00) (x01) (x10) (x11) t2 := by assumption
    replace hH := hH.below
    clear HS
    replace hB := bthen hB hH
    replace hX0 := hX0.keep hH
    replace hX1 := hX1.keep hH
    clear hH
    obtain ⟨k00, k01, k02⟩ := id hX0
    go_wp2_with (fail)
    refine (toSchema_any x00 x01 d0 _ (HM0.out.keep hB)).mono ?_
    rintro e u0 ⟨p00, p01, rfl, hp, hb⟩
    clear k00 k01 k02
    replace hB := bthen hB hb
    replace hX0 := hX0.keep hb
    replace hX1 := hX1.keep hb
    clear hb
    have hal : Below u0.heap.size u0 (u0.alloc (.cells #[p00, p01] 35)) := (Below.refl _ _).alloc (Nat.le_refl _) _
    obtain ⟨g0, g1⟩ := hp.one
    have st0 := fun (W : World) (a : Addr) (m : Mode) => run_store_of (P := Tryd.prog) W a m g0
    have st1 := fun (W : World) (a : Addr) (m : Mode) => run_store_of (P := Tryd.prog) W a m g1
    clear g0 g1
    have HP0 := hide hp
    clear hp
    have hZ0 := Box2.new u0 p00 p01 35
    replace hB := bthen hB hal
    replace hX0 := hX0.keep hal
    replace hX1 := hX1.keep hal
    replace HP0 := hide (HP0.out.keep hal)
    clear hal
    obtain ⟨k00, k01, k02⟩ := id hX1
    go_wp2_with (fail)
    refine (toEx_any x10 x11 d1 _ (HM1.out.keep hB)).mono ?_
    rintro e u1 ⟨p10, p11, rfl, hp, hb⟩
    clear k00 k01 k02
    replace hB := bthen hB hb
    replace hX0 := hX0.keep hb
    replace hX1 := hX1.keep hb
    replace hZ0 := hZ0.keep hb
    replace HP0 := hide (HP0.out.keep hb)
    clear hb
    have hal : Below u1.heap.size u1 (u1.alloc (.cells #[p10, p11] 30)) := (Below.refl _ _).alloc (Nat.le_refl _) _
    obtain ⟨g0, g1⟩ := hp.one
    have st0 := fun (W : World) (a : Addr) (m : Mode) => run_store_of (P := Tryd.prog) W a m g0
    have st1 := fun (W : World) (a : Addr) (m : Mode) => run_store_of (P := Tryd.prog) W a m g1
    clear g0 g1
    have HP1 := hide hp
    clear hp
    have hZ1 := Box2.new u1 p10 p11 30
    replace hB := bthen hB hal
    replace hX0 := hX0.keep hal
    replace hX1 := hX1.keep hal
    replace hZ0 := hZ0.keep hal
    replace HP0 := hide (HP0.out.keep hal)
    replace HP1 := hide (HP1.out.keep hal)
    clear hal
    obtain ⟨k00, k01, k02⟩ := id hZ0
    obtain ⟨k10, k11, k12⟩ := id hZ1
    go_wp2_with (fail)
    refine (implExText_any _ _ _ _ d0 d1 _ HP0.out HP1.out (HT.out.keep hB)).mono ?_
    rintro e v0 ⟨rfl, hb⟩
    clear k00 k01 k02 k10 k11 k12
    replace hB := bthen hB hb
    replace hX0 := hX0.keep hb
    replace hX1 := hX1.keep hb
    replace hZ0 := hZ0.keep hb
    replace hZ1 := hZ1.keep hb
    replace HP0 := hide (HP0.out.keep hb)
    replace HP1 := hide (HP1.out.keep hb)
    clear hb
    have hne : ((exT d0 d1).toList == (exT d0 d1).toList) = true := by simp
    obtain ⟨k00, k01, k02⟩ := id hZ0
    obtain ⟨k10, k11, k12⟩ := id hX0
    go_wp2
    clear k00 k01 k02 k10 k11 k12
    have HS := Held22.of hZ0 hX0 (Below.refl _ v0)
    unfold Held22 at HS
    go_region_held3 (fun W => W.cell? ⟨u0.heap.size, 0, none⟩ = some p00 ∧ W.cell? ⟨u0.heap.size, 1, none⟩ = some p01 ∧ W.cell? ⟨w.heap.size, 0, none⟩ = some x00 ∧ W.cell? ⟨w.heap.size, 1, none⟩ = some x01 ∧ u0.heap.size < W.heap.size ∧ w.heap.size < W.heap.size ∧ Below v0.heap.size v0 W) (first | assumption | exact Held22.keep (by assumption) (by assumption) | exact Held22.drew (by assumption)) (first | (go_at_call 21; refine (toSchema_any x00 x01 d0 _ (HM0.out.keep (bthen hB (Held22.below (by assumption))))).mono ?_; rintro e o0 ⟨y0, y1, rfl, hm, hb⟩) | (go_at_call 25; refine (eqSchema_any _ _ _ _ d0 _ (HP0.out.keep (Held22.below (by assumption))) (by assumption)).mono ?_; rintro e q0 ⟨rfl, hb2⟩))
    have hH : Held22 v0 (u0.heap.size) (w.heap.size) (p00) (p01) (x00) (x01) q0 := by assumption
    replace hH := hH.below
    clear HS
    replace hB := bthen hB hH
    replace hX0 := hX0.keep hH
    replace hX1 := hX1.keep hH
    replace hZ0 := hZ0.keep hH
    replace hZ1 := hZ1.keep hH
    replace HP0 := hide (HP0.out.keep hH)
    replace HP1 := hide (HP1.out.keep hH)
    clear hH
    obtain ⟨k00, k01, k02⟩ := id hZ1
    obtain ⟨k10, k11, k12⟩ := id hX1
    go_wp2
    clear k00 k01 k02 k10 k11 k12
    have HS := Held22.of hZ1 hX1 (Below.refl _ q0)
    unfold Held22 at HS
    go_region_held3 (fun W => W.cell? ⟨u1.heap.size, 0, none⟩ = some p10 ∧ W.cell? ⟨u1.heap.size, 1, none⟩ = some p11 ∧ W.cell? ⟨w.heap.size + 1, 0, none⟩ = some x10 ∧ W.cell? ⟨w.heap.size + 1, 1, none⟩ = some x11 ∧ u1.heap.size < W.heap.size ∧ w.heap.size + 1 < W.heap.size ∧ Below q0.heap.size q0 W) (first | assumption | exact Held22.keep (by assumption) (by assumption) | exact Held22.drew (by assumption)) (first | (go_at_call 64; refine (toEx_any x10 x11 d1 _ (HM1.out.keep (bthen hB (Held22.below (by assumption))))).mono ?_; rintro e o1 ⟨y0, y1, rfl, hm, hb⟩) | (go_at_call 24; refine (eqEx_any _ _ _ _ d1 _ (HP1.out.keep (Held22.below (by assumption))) (by assumption)).mono ?_; rintro e q1 ⟨rfl, hb2⟩))
    have hH : Held22 q0 (u1.heap.size) (w.heap.size + 1) (p10) (p11) (x10) (x11) q1 := by assumption
    replace hH := hH.below
    clear HS
    replace hB := bthen hB hH
    replace hX0 := hX0.keep hH
    replace hX1 := hX1.keep hH
    replace hZ0 := hZ0.keep hH
    replace hZ1 := hZ1.keep hH
    replace HP0 := hide (HP0.out.keep hH)
    replace HP1 := hide (HP1.out.keep hH)
    clear hH
    go_wp2
    go_ret
    exact ⟨rfl, hB⟩
end Go.Proofs.YtohodehmidbmlaaDoor
