/-
  Contracts: the total of statistics.
-/
import Derived.Test.YtjdncobdecdhmaaStatsOk3
namespace Go.Proofs.Ytjdncobdecdhmaa
open Go.RowKit
set_option maxRecDepth 100000

def totalI (d : SchemaD) (t : StatsD) : Int := if statsB d t = true then t.totals.sum else 0
theorem totalI_no {d : SchemaD} {t : StatsD} (h : statsB d t = false) : totalI d t = 0 := by simp [totalI, h]
theorem totalI_yes {d : SchemaD} {t : StatsD} (h : statsB d t = true) : totalI d t = t.totals.sum := by simp [totalI, h]
theorem statsB_all_wt {d : SchemaD} {t : StatsD} (h : statsB d t = true) : t.totals.all wt = true := by
  unfold statsB at h
  simp only [Bool.and_eq_true] at h
  exact h.2.2.1

set_option maxHeartbeats 8000000 in
theorem specStatsTotal_any (x0 x1 y0 y1 : Value) (d : SchemaD) (t : StatsD) (w : World) (h : SchemaM w x0 x1 d) (h' : StatsM w y0 y1 t) :
    Calls Try.prog 127 #[.agg #[x0, x1], .agg #[y0, y1]] w fun r w' => r = .returned (.int .i64 (totalI d t)) ∧ Below w.heap.size w w' := by
  have hSM := hide h
  have hST := hide h'
  obtain ⟨A, n, c, D, m, k, rfl, rfl, hl, hn, hr, hs, hm, hmk⟩ := h
  obtain ⟨G, b, f, E, p, q, rfl, rfl, hg, hb, hp, hpn⟩ := h'
  have hbox : Below w.heap.size w ((w.alloc (.cells #[.slice A n c, .slice D m k] 43)).alloc (.cells #[.slice G b f, .slice E p q] 39)) := ((Below.refl _ _).alloc (Nat.le_refl _) _).alloc (by simp) _
  obtain ⟨W, hW⟩ : ∃ W, W = ((w.alloc (.cells #[.slice A n c, .slice D m k] 43)).alloc (.cells #[.slice G b f, .slice E p q] 39)) := ⟨_, rfl⟩
  have hX := (Box2.new w (.slice A n c) (.slice D m k) 43).keep (Below.alloc (Below.refl _ _) (Nat.le_refl _) (.cells #[.slice G b f, .slice E p q] 39))
  have hY := Box2.new (w.alloc (.cells #[.slice A n c, .slice D m k] 43)) (.slice G b f) (.slice E p q) 39
  have hz : (w.alloc (.cells #[.slice A n c, .slice D m k] 43)).heap.size = w.heap.size + 1 := by simp
  rw [hz] at hY
  clear hz
  rw [← hW] at hX hY
  have HL := hide (hl.keep hbox)
  have HG := hide (hg.keep hbox)
  have HE := hide (hp.keep hbox)
  have HSM := hide (hSM.out.keep hbox)
  have HST := hide (hST.out.keep hbox)
  rw [← hW] at HL HG HE hbox HSM HST
  have hl1 := hide hl.1
  have hr1 := hide hr.1
  have hg1 := hide hg.1
  have hp1 := hide hp.1
  have HW := hide hW
  clear hl hr hs hW hg hSM hp hST
  obtain ⟨k0, k1, k2⟩ := id hX
  obtain ⟨j0, j1, j2⟩ := id hY
  cases h1 : statsB d t
  · have hfin := hide (totalI_no h1)
    have H1 := hide h1
    clear h1
    go_enter Try.func127, Try.ntmps127
    go_wp2_with (fail)
    rw [← HW.out]
    refine (specStatsOk_any _ _ _ _ d t _ HSM.out HST.out).mono ?_
    rintro r w1 ⟨rfl, hb1⟩
    rw [H1.out]
    have hB := bthen hbox hb1
    clear hb1 k0 k1 k2 j0 j1 j2
    go_wp2
    go_ret
    exact ⟨ret_int hfin.out.symm, hB⟩
  · have hfin := hide (totalI_yes h1)
    have HWT := hide (statsB_all_wt h1)
    have H1 := hide h1
    clear h1
    go_enter Try.func127, Try.ntmps127
    go_wp2_with (fail)
    rw [← HW.out]
    refine (specStatsOk_any _ _ _ _ d t _ HSM.out HST.out).mono ?_
    rintro r w1 ⟨rfl, hb1⟩
    rw [H1.out]
    have hB := bthen hbox hb1
    have HG1 := hide (HG.out.keep hb1)
    clear k0 k1 k2 j0 j1 j2
    obtain ⟨j0, j1, j2⟩ := hY.keep hb1
    clear hb1 hX hY hbox HL HG HE
    go_wp2
    go_loop [5, 6] (fun v i => ∃ (K : Nat) (S : Int), K ≤ b ∧ i = .int .i64 K ∧ v = .int .i64 S ∧ 0 ≤ S ∧ S ≤ 999 * K ∧ Hid (S = (t.totals.take K).sum)) (fun _ i => b - (intOf i).toNat)
    case atStart => exact ⟨0, 0, Nat.zero_le _, rfl, rfl, by omega, by omega, show _ = _ by simp⟩
    case round =>
      obtain ⟨K, S, hk, rfl, rfl, hS0, hS1, hSs⟩ := hrel
      by_cases hlt : K < b
      · obtain ⟨ad, rfl, _, hcell⟩ := HG1.out.at_ hlt
        have hkl := hide (show K < t.totals.length by have := hg1.out; omega)
        obtain ⟨x, hx⟩ : ∃ x, x = t.totals[K]?.getD 0 := ⟨_, rfl⟩
        rw [← hx] at hcell
        have hb : 0 ≤ x ∧ x ≤ 999 := by
          have h := HWT.out
          rw [List.all_eq_true] at h
          rw [hx, List.getElem?_eq_getElem hkl.out, Option.getD_some]
          exact inB_iff.1 (h _ (List.getElem_mem _))
        obtain ⟨hx0, hx1⟩ := hb
        have hSs' := hide (show S + x = (t.totals.take (K + 1)).sum by rw [sum_take_int hkl.out, ← hx, ← hSs.out])
        clear hx
        go_wp2
        go_round
        case rel => exact ⟨K + 1, S + x, by omega, by go_num, rfl, by omega, by omega, hSs'⟩
        case measure => simp [intOf]; omega
      · obtain rfl : b = K := by omega
        have hf := hide (show S = t.totals.sum by have := hSs.out; rwa [List.take_of_length_le (by have := hg1.out; omega)] at this)
        go_wp2
        go_ret
        exact ⟨ret_int (by rw [hf.out, hfin.out]), hB⟩

set_option maxHeartbeats 8000000 in
theorem implStatsTotal_any (x0 x1 y0 y1 : Value) (d : SchemaD) (t : StatsD) (w : World) (h : SchemaM w x0 x1 d) (h' : StatsM w y0 y1 t) :
    Calls Try.prog 34 #[.agg #[x0, x1], .agg #[y0, y1]] w fun r w' => r = .returned (.int .i64 (totalI d t)) ∧ Below w.heap.size w w' := by
  have hSM := hide h
  have hST := hide h'
  obtain ⟨A, n, c, D, m, k, rfl, rfl, hl, hn, hr, hs, hm, hmk⟩ := h
  obtain ⟨G, b, f, E, p, q, rfl, rfl, hg, hb, hp, hpn⟩ := h'
  have hbox : Below w.heap.size w ((w.alloc (.cells #[.slice A n c, .slice D m k] 43)).alloc (.cells #[.slice G b f, .slice E p q] 39)) := ((Below.refl _ _).alloc (Nat.le_refl _) _).alloc (by simp) _
  obtain ⟨W, hW⟩ : ∃ W, W = ((w.alloc (.cells #[.slice A n c, .slice D m k] 43)).alloc (.cells #[.slice G b f, .slice E p q] 39)) := ⟨_, rfl⟩
  have hX := (Box2.new w (.slice A n c) (.slice D m k) 43).keep (Below.alloc (Below.refl _ _) (Nat.le_refl _) (.cells #[.slice G b f, .slice E p q] 39))
  have hY := Box2.new (w.alloc (.cells #[.slice A n c, .slice D m k] 43)) (.slice G b f) (.slice E p q) 39
  have hz : (w.alloc (.cells #[.slice A n c, .slice D m k] 43)).heap.size = w.heap.size + 1 := by simp
  rw [hz] at hY
  clear hz
  rw [← hW] at hX hY
  have HL := hide (hl.keep hbox)
  have HG := hide (hg.keep hbox)
  have HE := hide (hp.keep hbox)
  have HSM := hide (hSM.out.keep hbox)
  have HST := hide (hST.out.keep hbox)
  rw [← hW] at HL HG HE hbox HSM HST
  have hl1 := hide hl.1
  have hr1 := hide hr.1
  have hg1 := hide hg.1
  have hp1 := hide hp.1
  have HW := hide hW
  clear hl hr hs hW hg hSM hp hST
  obtain ⟨k0, k1, k2⟩ := id hX
  obtain ⟨j0, j1, j2⟩ := id hY
  cases h1 : statsB d t
  · have hfin := hide (totalI_no h1)
    have H1 := hide h1
    clear h1
    go_enter Try.func34, Try.ntmps34
    go_wp2_with (fail)
    rw [← HW.out]
    refine (implStatsOk_any _ _ _ _ d t _ HSM.out HST.out).mono ?_
    rintro r w1 ⟨rfl, hb1⟩
    rw [H1.out]
    have hB := bthen hbox hb1
    clear hb1 k0 k1 k2 j0 j1 j2
    go_wp2
    go_ret
    exact ⟨ret_int hfin.out.symm, hB⟩
  · have hfin := hide (totalI_yes h1)
    have HWT := hide (statsB_all_wt h1)
    have H1 := hide h1
    clear h1
    go_enter Try.func34, Try.ntmps34
    go_wp2_with (fail)
    rw [← HW.out]
    refine (implStatsOk_any _ _ _ _ d t _ HSM.out HST.out).mono ?_
    rintro r w1 ⟨rfl, hb1⟩
    rw [H1.out]
    have hB := bthen hbox hb1
    have HG1 := hide (HG.out.keep hb1)
    clear k0 k1 k2 j0 j1 j2
    obtain ⟨j0, j1, j2⟩ := hY.keep hb1
    clear hb1 hX hY hbox HL HG HE
    go_wp2_with (fail)
    refine (total_any G b f t.totals _ HG1.out (by omega) HWT.out).mono ?_
    rintro e w' ⟨rfl, rfl⟩
    go_wp2
    go_ret
    exact ⟨ret_int hfin.out.symm, hB⟩
end Go.Proofs.Ytjdncobdecdhmaa
