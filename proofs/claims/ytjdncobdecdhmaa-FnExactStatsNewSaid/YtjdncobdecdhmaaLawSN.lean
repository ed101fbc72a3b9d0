/-
  The law FnExactStatsNew.
-/
import Derived.Test.YtjdncobdecdhmaaStatsNew2
import Derived.Test.YtjdncobdecdhmaaLawQ
import Derived.Test.YtjdncobdecdhmaaMarkA4
namespace Go.Proofs.Ytjdncobdecdhmaa
open Go.RowKit

theorem new_cnt (d : SchemaD) : cntStats (statsNewD d) ≤ 1048576 := by
  unfold cntStats statsNewD
  split
  · rename_i h
    have hc := schemaB_classes h
    have ha := (schemaB_few h).2
    have key : ∀ l : List AttrD, ((l.map (zeroRow d.classes.length)).map List.length).sum ≤ 12 * l.length := by
      intro l
      induction l with
      | nil => simp
      | cons a l ih =>
        have := zeroRow_len (c := d.classes.length) (a := a) (by rcases hc with h | h <;> omega)
        simp only [List.map_cons, List.sum_cons, List.length_cons]
        omega
    have := key d.attrs
    simp only [zeroRows, List.length_replicate]
    omega
  · simp

set_option maxRecDepth 100000 in
set_option maxHeartbeats 8000000 in
theorem fnExactStatsNew_walk (w : World) (x00 x01 : Value) (d0 : SchemaD) (h0 : SchemaI w x00 x01 d0) :
    Calls Try.prog 5 #[.agg #[x00, x01]] w fun e w' => e = .returned (.bool true) ∧ Below w.heap.size w w' := by
  have hX := Box2.new w x00 x01 35
  have hB : Below w.heap.size w (w.alloc (.cells #[x00, x01] 35)) := (Below.refl _ _).alloc (Nat.le_refl _) _
  have HI0 := hide h0
  clear h0
  go_enter Try.func5, Try.ntmps5
  obtain ⟨k00, k01, k02⟩ := id hX
  go_wp2_with (fail)
  refine (szSchema_any x00 x01 d0 _ _ (HI0.out.keep hB) (by omega) (by omega)).mono ?_
  rintro e s0 ⟨r0, rfl, hr, hb⟩
  clear k00 k01 k02
  replace hB := bthen hB hb
  replace hX := hX.keep hb
  clear hb
  rcases hr with rfl | ⟨hr0, hr1⟩
  · go_wp2
    go_ret
    exact ⟨rfl, hB⟩
  have HM0 := hide (HI0.out.small (by omega))
  have hw0 := hide (show wSchema d0 ≤ 1048576 by omega)
  clear hr1
  obtain ⟨k00, k01, k02⟩ := id hX
  go_wp2_with (fail)
  refine (toSchema_any x00 x01 d0 _ (HM0.out.keep hB)).mono ?_
  rintro e t0 ⟨y0, y1, rfl, hm, hb⟩
  clear k00 k01 k02
  replace hB := bthen hB hb
  replace hX := hX.keep hb
  clear hb
  have HY := hide hm
  clear hm
  go_wp2_with (fail)
  refine (specStatsNew_any _ _ d0 _ HY.out).mono ?_
  rintro e t1 ⟨z0, z1, rfl, hz, hb⟩
  replace hB := bthen hB hb
  replace hX := hX.keep hb
  clear hb
  clear HY
  obtain ⟨g0_, g1_⟩ := hz.m.one
  have st0 := fun (W : World) (a : Addr) (m : Mode) => run_store_of (P := Try.prog) W a m g0_
  have st1 := fun (W : World) (a : Addr) (m : Mode) => run_store_of (P := Try.prog) W a m g1_
  clear g0_ g1_
  have HZ := hide hz.m
  clear hz
  have hC : Below t1.heap.size t1 t1 := Below.refl _ _
  have hal : Below t1.heap.size t1 (t1.alloc (.cells #[z0, z1] 39)) := (Below.refl _ _).alloc (Nat.le_refl _) _
  have hY := Box2.new t1 z0 z1 39
  replace hB := bthen hB hal
  replace hC := bthen hC hal
  replace hX := hX.keep hal
  clear hal
  have q1 : w.heap.size < t1.heap.size + 1 := by have := hX.lt; simp at this; omega
  obtain ⟨k00, k01, k02⟩ := id hX
  go_wp2_with (fail)
  refine (toSchema_own x00 x01 d0 _ (HM0.out.keep hB)).mono ?_
  rintro e u0 ⟨p0, p1, rfl, hp, hb⟩
  clear st0 st1
  clear k00 k01 k02
  have q3 : t1.heap.size + 1 ≤ u0.heap.size := by have := hb.size; simpa using this
  replace hB := bthen hB hb
  replace hC := bthen hC hb
  replace hX := hX.keep hb
  replace hY := hY.keep hb
  clear hb
  obtain ⟨g0_, g1_⟩ := hp.m.one
  have st0 := fun (W : World) (a : Addr) (m : Mode) => run_store_of (P := Try.prog) W a m g0_
  have st1 := fun (W : World) (a : Addr) (m : Mode) => run_store_of (P := Try.prog) W a m g1_
  clear g0_ g1_
  have hp2 : SchemaO (t1.heap.size + 1) u0.heap.size u0 p0 p1 d0 := by simpa using hp
  have HXO := hide hp2
  clear hp2
  clear hp
  have hal : Below u0.heap.size u0 (u0.alloc (.cells #[p0, p1] 43)) := (Below.refl _ _).alloc (Nat.le_refl _) _
  have hZ := Box2.new u0 p0 p1 43
  replace hB := bthen hB hal
  replace hC := bthen hC hal
  replace hX := hX.keep hal
  replace hY := hY.keep hal
  replace HXO := hide (HXO.out.below hal)
  clear hal
  obtain ⟨k00, k01, k02⟩ := id hZ
  go_wp2_with (fail)
  refine (implStatsNew_any _ _ d0 _ HXO.out.m).mono ?_
  rintro e v0 ⟨g0, g1, rfl, hg, hb⟩
  clear st0 st1
  clear k00 k01 k02
  have q5 : u0.heap.size + 1 ≤ v0.heap.size := by have := hb.size; simpa using this
  replace hB := bthen hB hb
  replace hC := bthen hC hb
  replace hX := hX.keep hb
  replace hY := hY.keep hb
  replace hZ := hZ.keep hb
  replace HXO := hide (HXO.out.below hb)
  clear hb
  obtain ⟨g0_, g1_⟩ := hg.m.one
  have st0 := fun (W : World) (a : Addr) (m : Mode) => run_store_of (P := Try.prog) W a m g0_
  have st1 := fun (W : World) (a : Addr) (m : Mode) => run_store_of (P := Try.prog) W a m g1_
  clear g0_ g1_
  have hg2 : StatsO (u0.heap.size + 1) v0.heap.size v0 g0 g1 (statsNewD d0) := by simpa using hg
  have HGO := hide hg2
  clear hg2
  clear hg
  have hal : Below v0.heap.size v0 (v0.alloc (.cells #[g0, g1] 39)) := (Below.refl _ _).alloc (Nat.le_refl _) _
  have hG := Box2.new v0 g0 g1 39
  replace hB := bthen hB hal
  replace hC := bthen hC hal
  replace hX := hX.keep hal
  replace hY := hY.keep hal
  replace hZ := hZ.keep hal
  replace HXO := hide (HXO.out.below hal)
  replace HGO := hide (HGO.out.below hal)
  clear hal
  obtain ⟨k00, k01, k02⟩ := id hG
  obtain ⟨k10, k11, k12⟩ := id hY
  go_wp2_with (fail)
  refine (eqStats_any _ _ _ _ (statsNewD d0) _ HGO.out.m (HZ.out.keep hC)).mono ?_
  rintro e c1 ⟨rfl, hb⟩
  clear st0 st1
  clear k00 k01 k02 k10 k11 k12
  replace hB := bthen hB hb
  replace hC := bthen hC hb
  replace hX := hX.keep hb
  replace hY := hY.keep hb
  replace hZ := hZ.keep hb
  replace hG := hG.keep hb
  replace HXO := hide (HXO.out.below hb)
  replace HGO := hide (HGO.out.below hb)
  clear hb
  obtain ⟨k00, k01, k02⟩ := id hZ
  obtain ⟨k10, k11, k12⟩ := id hX
  go_wp2
  clear k00 k01 k02 k10 k11 k12
  have HS := Held22.of hZ hX (Below.refl _ c1)
  unfold Held22 at HS
  go_region_held3 (fun W => W.cell? ⟨u0.heap.size, 0, none⟩ = some p0 ∧ W.cell? ⟨u0.heap.size, 1, none⟩ = some p1 ∧ W.cell? ⟨w.heap.size, 0, none⟩ = some x00 ∧ W.cell? ⟨w.heap.size, 1, none⟩ = some x01 ∧ u0.heap.size < W.heap.size ∧ w.heap.size < W.heap.size ∧ Below c1.heap.size c1 W) (first | assumption | exact Held22.keep (by assumption) (by assumption) | exact Held22.drew (by assumption)) (first | (go_at_call 20; refine (toSchema_any x00 x01 d0 _ (HM0.out.keep (bthen hB (Held22.below (by assumption))))).mono ?_; rintro e o0 ⟨y0, y1, rfl, hm, hb⟩) | (go_at_call 23; refine (eqSchema_any _ _ _ _ d0 _ (HXO.out.m.keep (Held22.below (by assumption))) (by assumption)).mono ?_; rintro e c2 ⟨rfl, hb2⟩))
  have hH : Held22 c1 u0.heap.size w.heap.size p0 p1 x00 x01 c2 := by assumption
  replace hH := hH.below
  clear HS
  replace hB := bthen hB hH
  replace hC := bthen hC hH
  replace hX := hX.keep hH
  replace hY := hY.keep hH
  replace hZ := hZ.keep hH
  replace hG := hG.keep hH
  replace HXO := hide (HXO.out.below hH)
  replace HGO := hide (HGO.out.below hH)
  clear hH
  obtain ⟨k00, k01, k02⟩ := id hZ
  go_wp2_with (fail)
  refine (markSchema_any _ _ _ _ d0 _ _ HXO.out (Nat.le_trans (cntSchema_le d0) hw0.out) (by omega) (by omega)).mono ?_
  rintro e c3 ⟨rfl, -, ho⟩
  clear k00 k01 k02
  replace hB := Only.below hB hB.size ho (fun k hk => by omega)
  replace hC := Only.below hC hC.size ho (fun k hk => by omega)
  replace hX := hX.only ho (by omega)
  replace hY := hY.only ho (by omega)
  replace hG := hG.only ho (by omega)
  replace HGO := hide (HGO.out.only ho (fun k hk => by omega))
  clear ho hZ HXO
  obtain ⟨k00, k01, k02⟩ := id hG
  obtain ⟨k10, k11, k12⟩ := id hY
  go_wp2_with (fail)
  refine (eqStats_any _ _ _ _ (statsNewD d0) _ HGO.out.m (HZ.out.keep hC)).mono ?_
  rintro e c4 ⟨rfl, hb⟩
  clear k00 k01 k02 k10 k11 k12
  replace hB := bthen hB hb
  replace hC := bthen hC hb
  replace hX := hX.keep hb
  replace hY := hY.keep hb
  replace hG := hG.keep hb
  replace HGO := hide (HGO.out.below hb)
  clear hb
  have hcn := hide (show cntStats (statsNewD d0) ≤ 1048576 from new_cnt d0)
  obtain ⟨k00, k01, k02⟩ := id hG
  go_wp2_with (fail)
  refine (markStats_any _ _ _ _ (statsNewD d0) _ _ HGO.out hcn.out (by omega) (by omega)).mono ?_
  rintro e c5 ⟨rfl, hgo, ho⟩
  clear k00 k01 k02
  replace hB := Only.below hB hB.size ho (fun k hk => by omega)
  replace hC := Only.below hC hC.size ho (fun k hk => by omega)
  replace hX := hX.only ho (by omega)
  replace hY := hY.only ho (by omega)
  replace hG := hG.only ho (by omega)
  have HGM := hide hgo
  clear ho hgo HGO
  obtain ⟨k00, k01, k02⟩ := id hG
  go_wp2_with (fail)
  refine (heldStats_any _ _ (statsNewD d0) _ _ HGM.out.m hcn.out (by omega) (by omega)).mono ?_
  rintro e c6 ⟨rfl, hb⟩
  clear k00 k01 k02
  replace hB := bthen hB hb
  replace hC := bthen hC hb
  replace hX := hX.keep hb
  replace hY := hY.keep hb
  replace hG := hG.keep hb
  replace HGM := hide (HGM.out.below hb)
  clear hb
  obtain ⟨k00, k01, k02⟩ := id hX
  go_wp2_with (fail)
  refine (toSchema_any x00 x01 d0 _ (HM0.out.keep hB)).mono ?_
  rintro e c7 ⟨y0, y1, rfl, hm, hb⟩
  clear k00 k01 k02
  replace hB := bthen hB hb
  replace hC := bthen hC hb
  replace hX := hX.keep hb
  replace hY := hY.keep hb
  replace hG := hG.keep hb
  replace HGM := hide (HGM.out.below hb)
  clear hb
  have HY := hide hm
  clear hm
  go_wp2_with (fail)
  refine (implStatsNew_any _ _ d0 _ HY.out).mono ?_
  rintro e c8 ⟨h0, h1, rfl, hh, hb⟩
  replace hB := bthen hB hb
  replace hC := bthen hC hb
  replace hX := hX.keep hb
  replace hY := hY.keep hb
  replace hG := hG.keep hb
  replace HGM := hide (HGM.out.below hb)
  clear hb
  clear HY
  obtain ⟨g0_, g1_⟩ := hh.m.one
  have st0 := fun (W : World) (a : Addr) (m : Mode) => run_store_of (P := Try.prog) W a m g0_
  have st1 := fun (W : World) (a : Addr) (m : Mode) => run_store_of (P := Try.prog) W a m g1_
  clear g0_ g1_
  have hal : Below c8.heap.size c8 (c8.alloc (.cells #[h0, h1] 39)) := (Below.refl _ _).alloc (Nat.le_refl _) _
  have hJ := Box2.new c8 h0 h1 39
  have HH := hide (hh.m.keep hal)
  clear hh
  replace hB := bthen hB hal
  replace hC := bthen hC hal
  replace hX := hX.keep hal
  replace hY := hY.keep hal
  replace hG := hG.keep hal
  replace HGM := hide (HGM.out.below hal)
  clear hal
  obtain ⟨k00, k01, k02⟩ := id hJ
  obtain ⟨k10, k11, k12⟩ := id hY
  go_wp2_with (fail)
  refine (eqStats_any _ _ _ _ (statsNewD d0) _ HH.out (HZ.out.keep hC)).mono ?_
  rintro e c9 ⟨rfl, hb⟩
  clear st0 st1 HH
  clear k00 k01 k02 k10 k11 k12
  replace hB := bthen hB hb
  replace hC := bthen hC hb
  replace hX := hX.keep hb
  replace hY := hY.keep hb
  replace hG := hG.keep hb
  replace hJ := hJ.keep hb
  replace HGM := hide (HGM.out.below hb)
  clear hb
  obtain ⟨k00, k01, k02⟩ := id hG
  go_wp2_with (fail)
  refine (heldStats_any _ _ (statsNewD d0) _ _ HGM.out.m hcn.out (by omega) (by omega)).mono ?_
  rintro e c10 ⟨rfl, hb⟩
  clear k00 k01 k02
  replace hB := bthen hB hb
  replace hC := bthen hC hb
  replace hX := hX.keep hb
  replace hY := hY.keep hb
  replace hG := hG.keep hb
  replace hJ := hJ.keep hb
  replace HGM := hide (HGM.out.below hb)
  clear hb
  go_wp2
  go_ret
  exact ⟨rfl, hB⟩
end Go.Proofs.Ytjdncobdecdhmaa
