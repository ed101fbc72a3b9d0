/-
  Contracts: right statistics, the reference.
-/
import Derived.Test.YtjdncobdecdhmaaStatsB
namespace Go.Proofs.Ytjdncobdecdhmaa
open Go.RowKit
set_option maxRecDepth 100000

theorem mul_bd {z : Nat} {m : Nat} (hz : z ≤ 4) (hm : m = 2 ∨ m = 3) : z * m ≤ 12 := by
  rcases hm with rfl | rfl <;> omega
theorem wrap_of {x y : Int} (h : x = y) (h0 : 0 ≤ y) (h1 : y ≤ 4294967296) : IntKind.i64.wrap x = y := by
  rw [h]; exact IntWalk.i64_in _ (by omega)

set_option maxHeartbeats 8000000 in
theorem specStatsOk_any (x0 x1 y0 y1 : Value) (d : SchemaD) (t : StatsD) (w : World) (h : SchemaM w x0 x1 d) (h' : StatsM w y0 y1 t) :
    Calls Try.prog 30 #[.agg #[x0, x1], .agg #[y0, y1]] w fun r w' => r = .returned (.bool (statsB d t)) ∧ Below w.heap.size w w' := by
  have hSM := hide h
  obtain ⟨A, n, c, D, m, k, rfl, rfl, hl, hn, hr, hs, hm, hmk⟩ := h
  obtain ⟨G, b, f, E, p, q, rfl, rfl, hg, hb, hp, hpn⟩ := h'
  have hbox : Below w.heap.size w ((w.alloc (.cells #[.slice A n c, .slice D m k] 43)).alloc (.cells #[.slice G b f, .slice E p q] 39)) := ((Below.refl _ _).alloc (Nat.le_refl _) _).alloc (by simp) _
  obtain ⟨W, hW⟩ : ∃ W, W = ((w.alloc (.cells #[.slice A n c, .slice D m k] 43)).alloc (.cells #[.slice G b f, .slice E p q] 39)) := ⟨_, rfl⟩
  have hX := (Box2.new w (.slice A n c) (.slice D m k) 43).keep (Below.alloc (Below.refl _ _) (Nat.le_refl _) (.cells #[.slice G b f, .slice E p q] 39))
  have hY := Box2.new (w.alloc (.cells #[.slice A n c, .slice D m k] 43)) (.slice G b f) (.slice E p q) 39
  have hz : (w.alloc (.cells #[.slice A n c, .slice D m k] 43)).heap.size = w.heap.size + 1 := by simp
  rw [hz] at hY
  clear hz
  rw [← hW] at hX hY
  have HL := hide (hl.keep hbox)
  have HG := hide (hg.keep hbox)
  have HE := hide (hp.keep hbox)
  have HSM := hide (hSM.out.keep hbox)
  rw [← hW] at HL HG HE hbox HSM
  have hl1 := hide hl.1
  have hr1 := hide hr.1
  have hg1 := hide hg.1
  have hp1 := hide hp.1
  have HW := hide hW
  clear hl hr hs hW hg hSM hp
  cases h1 : schemaB d
  · have hfin := hide (statsB_schema (t := t) h1)
    have H1 := hide h1
    clear h1
    go_enter Try.func30, Try.ntmps30
    go_wp2_with (fail)
    rw [← HW.out]
    refine (specSchemaOk_any _ _ d _ HSM.out).mono ?_
    rintro r w1 ⟨rfl, hb1⟩
    rw [H1.out]
    have hB := bthen hbox hb1
    clear hb1
    go_wp2
    go_ret
    exact ⟨ret_bool hfin.out.symm, hB⟩
  · have H1 := hide h1
    clear h1
    by_cases hbm : b = m
    · subst hbm
      have hm23 := hide (show b = 2 ∨ b = 3 by rw [hr1.out]; exact schemaB_classes H1.out)
      have hm3 : b ≤ 3 := by rcases hm23.out with h | h <;> omega
      go_enter Try.func30, Try.ntmps30
      go_wp2_with (fail)
      rw [← HW.out]
      refine (specSchemaOk_any _ _ d _ HSM.out).mono ?_
      rintro r w1 ⟨rfl, hb1⟩
      rw [H1.out]
      have hB := bthen hbox hb1
      have hX1 := hX.keep hb1
      have hY1 := hY.keep hb1
      obtain ⟨k0, k1, k2⟩ := id hX1
      obtain ⟨j0, j1, j2⟩ := id hY1
      have HL1 := hide (HL.out.keep hb1)
      have HG1 := hide (HG.out.keep hb1)
      have HE1 := hide (HE.out.keep hb1)
      clear hb1 hX hY hbox HL HG HE
      go_wp2
      go_loop [5, 6] (fun v i => ∃ (K : Nat) (S : Int), K ≤ b ∧ i = .int .i64 K ∧ v = .int .i64 S ∧ 0 ≤ S ∧ S ≤ 999 * K ∧ Hid ((t.totals.take K).all wt = true) ∧ Hid (S = (t.totals.take K).sum)) (fun _ i => b - (intOf i).toNat)
      case atStart => exact ⟨0, 0, Nat.zero_le _, rfl, rfl, by omega, by omega, show _ = _ by simp, show _ = _ by simp⟩
      case round =>
        obtain ⟨K, S, hk, rfl, rfl, hS0, hS1, hall, hSs⟩ := hrel
        by_cases hlt : K < b
        · obtain ⟨ad, rfl, _, hcell⟩ := HG1.out.at_ hlt
          have hkl := hide (show K < t.totals.length by have := hg1.out; omega)
          obtain ⟨x, hx⟩ : ∃ x, x = t.totals[K]?.getD 0 := ⟨_, rfl⟩
          rw [← hx] at hcell
          have HX := hide hx
          clear hx
          cases hw : inB x 0 999
          · have hbad := hide (statsB_wt (s := d) (all_badD (p := wt) 0 hkl.out (by rw [← HX.out]; exact hw)))
            go_wp2_with (go_at_call 64; refine (l1In_any _ _ _ _).mono ?_; rintro e w' ⟨rfl, rfl⟩)
            go_ret
            exact ⟨ret_bool hbad.out.symm, hB⟩
          · have hall' := hide (all_stepD (p := wt) 0 hkl.out hall.out (by rw [← HX.out]; exact hw))
            have hx2 := inB_iff.1 hw
            obtain ⟨hx0, hx1⟩ := hx2
            have hSs' := hide (show S + x = (t.totals.take (K + 1)).sum by rw [sum_take_int hkl.out, ← HX.out, ← hSs.out])
            go_wp2_with (go_at_call 64; refine (l1In_any _ _ _ _).mono ?_; rintro e w' ⟨rfl, rfl⟩)
            go_round
            case rel => exact ⟨K + 1, S + x, by omega, by go_num, rfl, by omega, by omega, hall', hSs'⟩
            case measure => simp [intOf]; omega
        · obtain rfl : b = K := by omega
          have hwt := hide (show t.totals.all wt = true by have := hall.out; rwa [List.take_of_length_le (by have := hg1.out; omega)] at this)
          have hSt := hide (show S = t.totals.sum by have := hSs.out; rwa [List.take_of_length_le (by have := hg1.out; omega)] at this)
          have hlen := hide (show t.totals.length = d.classes.length by rw [← hg1.out, ← hr1.out])
          clear hall hSs hS1
          by_cases hS9 : S ≤ 999
          · have hS9' := hide (show t.totals.sum ≤ 999 by rw [← hSt.out]; exact hS9)
            by_cases hp0 : p = 0
            · have hfin := hide (statsB_none H1.out hlen.out hwt.out hS9'.out (by rw [← hp1.out]; exact hp0))
              have hpe : ((p : Int) == 0) = true := by rw [hp0]; rfl
              clear hp0
              go_wp2
              go_ret
              exact ⟨ret_bool hfin.out.symm, hB⟩
            · have hp0' := hide (show ¬ t.cells.length = 0 by rw [← hp1.out]; exact hp0)
              have hpe : ((p : Int) == 0) = false := by rw [beq_eq_false_iff_ne]; omega
              by_cases hpn2 : p = n
              · subst hpn2
                have hfin := hide (show (List.range t.cells.length).all (rowAt d t) = true → statsB d t = true from statsB_all H1.out hlen.out hwt.out hS9'.out (by rw [← hp1.out, ← hl1.out]))
                clear hp0
                go_wp2
                clear k0 k1 k2 j0 j1 j2
                go_loopw [7] (fun i wr => ∃ K' : Nat, K' ≤ p ∧ i = .int .i64 K' ∧ Hid ((List.range K').all (rowAt d t) = true) ∧ Below w1.heap.size w1 wr) (fun i _ => p - (intOf i).toNat)
                case atStart => exact ⟨0, Nat.zero_le _, rfl, show _ = _ by simp, Below.refl _ _⟩
                case round =>
                  obtain ⟨K', hk', rfl, hall, hbel⟩ := hrel
                  obtain ⟨k0, k1, k2⟩ := hX1.keep hbel
                  obtain ⟨j0, j1, j2⟩ := hY1.keep hbel
                  have hend := hide (bthen hB hbel)
                  by_cases hlt : K' < p
                  · obtain ⟨ad, A1, n1, c1, A2, n2, c2, rfl, hbk, g0, g1, g2, hI⟩ := (HL1.out.keep hbel).at_ hlt
                    have hkl := hide (show K' < t.cells.length by have := hp1.out; omega)
                    obtain ⟨a, ha⟩ : ∃ a, a = d.attrs[K']?.getD default := ⟨_, rfl⟩
                    rw [← ha] at g0 hI
                    have HA := hide ha
                    have HI := hide hI
                    have hbd := binsOf_bd a
                    obtain ⟨Z, hZ⟩ : ∃ Z : Nat, binsOf a = (Z : Int) := ⟨(binsOf a).toNat, by omega⟩
                    have hZ4 : Z ≤ 4 := by omega
                    have HZ := hide hZ
                    clear ha hI hbd hZ
                    go_wp2_with (fail)
                    refine (specBins_any _ _ _ _ _ _ a _ HI.out).mono ?_
                    rintro r w2 ⟨rfl, hb2⟩
                    rw [HZ.out]
                    have hbel2 := bthen hbel hb2
                    have hend2 := hide (bthen hB hbel2)
                    have hX2 := hX1.keep hbel2
                    have hY2 := hY1.keep hbel2
                    clear hb2 hbel g0 g1 g2 k0 k1 k2 j0 j1 j2 hbk HI hend
                    obtain ⟨k0, k1, k2⟩ := hX2
                    obtain ⟨j0, j1, j2⟩ := hY2
                    obtain ⟨ae, A', n', c', rfl, hbe, hce, hn', hIr⟩ := (HE1.out.keep hbel2).at_ hlt
                    obtain ⟨l, hl⟩ : ∃ l, l = t.cells[K']?.getD [] := ⟨_, rfl⟩
                    rw [← hl] at hIr
                    have HR := hide hIr
                    have hrow := hide (show rowAt d t K' = rowB a l t.totals b by rw [rowAt, ← HA.out, ← hl, ← hr1.out])
                    clear hIr hl
                    obtain ⟨P, hP⟩ : ∃ P, P = Z * b := ⟨_, rfl⟩
                    have hP12 : P ≤ 12 := by rw [hP]; exact mul_bd hZ4 hm23.out
                    have HP := hide hP
                    clear hP
                    have hmul : IntKind.i64.wrap ((Z : Int) * (b : Int)) = (P : Int) := wrap_of (by rw [HP.out, Int.natCast_mul]) (by omega) (by omega)
                    have hi0 : (0 : Int) ≤ K' := by omega
                    have hi1 : (K' : Int) < p := by omega
                    by_cases hnP : n' = P
                    · subst hnP
                      have hlz := hide (show (l.length : Int) = binsOf a * b by rw [← HR.out.1, HP.out, HZ.out, Int.natCast_mul])
                      go_wp2
                      go_quiet (fail)
                      clear hmul
                      go_wp2
                      go_loopw [9] (fun i wr => ∃ k' : Nat, k' ≤ b ∧ i = .int .i64 k' ∧ Hid ((List.range k').all (colB l t.totals b Z) = true) ∧ ∃ q, wr = w2.drewN q) (fun i _ => b - (intOf i).toNat)
                      case atStart => exact ⟨0, Nat.zero_le _, rfl, show _ = _ by simp, _, rfl⟩
                      case round =>
                        obtain ⟨k', hkk, rfl, hcol, qq, rfl⟩ := hrel
                        by_cases hkb : k' < b
                        · obtain ⟨ag, rfl, _, hct⟩ := ((HG1.out.keep hbel2).at_ hkb)
                          obtain ⟨x, hx⟩ : ∃ x, x = t.totals[k']?.getD 0 := ⟨_, rfl⟩
                          rw [← hx] at hct
                          have HX := hide hx
                          clear hx
                          go_wp2
                          go_loopw [10, 11] (fun v i wr => ∃ (B : Nat) (S' : Int), B ≤ Z ∧ i = .int .i64 B ∧ v = .int .i64 S' ∧ 0 ≤ S' ∧ S' ≤ 999 * B ∧ Hid ((List.range B).all (fun b' => wt (l[b' * b + k']?.getD 0)) = true) ∧ Hid (S' = pSum l b k' (B * b)) ∧ ∃ q, wr = w2.drewN q) (fun _ i _ => Z - (intOf i).toNat)
                          case atStart => exact ⟨0, 0, Nat.zero_le _, rfl, rfl, by omega, by omega, show _ = _ by simp, show _ = _ by simp [pSum], _, rfl⟩
                          case round =>
                            obtain ⟨B, S', hBZ, rfl, rfl, hs0, hs1, hwts, hps, qq, rfl⟩ := hrel
                            by_cases hBlt : B < Z
                            · obtain ⟨M, hM⟩ : ∃ M, M = B * b := ⟨_, rfl⟩
                              obtain ⟨J, hJ⟩ : ∃ J, J = M + k' := ⟨_, rfl⟩
                              have hM12 : M ≤ 12 := by rw [hM]; exact mul_bd (by omega) hm23.out
                              have hJn : J < n' := by
                                have : (B + 1) * b ≤ Z * b := Nat.mul_le_mul_right _ hBlt
                                rw [Nat.add_mul, Nat.one_mul] at this
                                have := HP.out
                                omega
                              have hm1 : IntKind.i64.wrap ((B : Int) * (b : Int)) = (M : Int) := wrap_of (by rw [hM, Int.natCast_mul]) (by omega) (by omega)
                              have hm2 : IntKind.i64.wrap ((M : Int) + (k' : Int)) = (J : Int) := wrap_of (by rw [hJ]; omega) (by omega) (by omega)
                              obtain ⟨ar, rfl, _, hcr⟩ := (HR.out).at_ hJn
                              obtain ⟨y, hy⟩ : ∃ y, y = l[J]?.getD 0 := ⟨_, rfl⟩
                              rw [← hy] at hcr
                              have HY := hide (show y = l[B * b + k']?.getD 0 by rw [hy, hJ, hM])
                              have hJ0 : (0 : Int) ≤ J := by omega
                              have hJ1 : (J : Int) < n' := by omega
                              clear hy hM hJ
                              cases hw : inB y 0 999
                              · have hbad := hide (statsB_row hp0'.out hkl.out (by rw [hrow.out]; exact rowB_col hkb (by rw [HZ.out]; exact colB_wt (b := B) hBlt (by rw [← HY.out]; exact hw))))
                                go_wp2
                                go_quiet (fail)
                                clear hm1 hm2
                                go_wp2_with (go_at_call 64; refine (l1In_any _ _ _ _).mono ?_; rintro e w' ⟨rfl, rfl⟩)
                                go_ret
                                exact ⟨ret_bool hbad.out.symm, below_drewN hend2.out _⟩
                              · have hwts' := hide (range_snoc hwts.out (by rw [← HY.out]; exact hw))
                                have hps' := hide (show S' + y = pSum l b k' ((B + 1) * b) by rw [pSum_block hm23.out hkb, ← HY.out, ← hps.out])
                                obtain ⟨hy0, hy1⟩ := inB_iff.1 hw
                                go_wp2
                                go_quiet (fail)
                                clear hm1 hm2
                                go_wp2_with (go_at_call 64; refine (l1In_any _ _ _ _).mono ?_; rintro e w' ⟨rfl, rfl⟩)
                                go_roundw
                                case rel => exact ⟨B + 1, S' + y, by omega, by go_num, rfl, by omega, by omega, hwts', hps', _, rfl⟩
                                case measure => simp [intOf]; omega
                            · obtain rfl : Z = B := by omega
                              by_cases hover : S' ≤ x
                              · have hcol' := hide (range_snoc hcol.out (colB_all hwts.out (by rw [← hps.out, ← HX.out]; exact hover)))
                                go_wp2
                                go_roundw
                                case rel => exact ⟨k' + 1, by omega, by go_num, hcol', _, rfl⟩
                                case measure => simp [intOf]; omega
                              · have hbad := hide (statsB_row hp0'.out hkl.out (by rw [hrow.out]; exact rowB_col hkb (by rw [HZ.out]; exact colB_over (by rw [Int.toNat_natCast, ← hps.out, ← HX.out]; exact hover))))
                                go_wp2
                                go_ret
                                exact ⟨ret_bool hbad.out.symm, below_drewN hend2.out _⟩
                        · obtain rfl : b = k' := by omega
                          have hall' := hide (range_snoc hall.out (by rw [hrow.out]; exact rowB_all hlz.out (by rw [HZ.out]; exact hcol.out)))
                          go_wp2
                          go_roundw
                          case rel => exact ⟨K' + 1, by omega, by go_num, hall', below_drewN hbel2 _⟩
                          case measure => simp [intOf]; omega
                    · have hbad := hide (statsB_row hp0'.out hkl.out (by
                        rw [hrow.out]
                        refine rowB_len ?_
                        rw [← HR.out.1, HZ.out, ← Int.natCast_mul, ← HP.out]
                        omega))
                      have hne : ((n' : Int) != (P : Int)) = true := by rw [bne_iff_ne]; omega
                      clear hnP
                      go_wp2
                      go_quiet (fail)
                      go_wp2
                      go_ret
                      exact ⟨ret_bool hbad.out.symm, below_drewN hend2.out _⟩
                  · obtain rfl : p = K' := by omega
                    have hf := hide (hfin.out (by rw [← hp1.out]; exact hall.out))
                    go_wp2
                    go_ret
                    exact ⟨ret_bool hf.out.symm, hend.out⟩
              · have hfin := hide (statsB_cells (s := d) hp0'.out (by rw [← hp1.out, ← hl1.out]; exact hpn2))
                have hne : ((p : Int) != (n : Int)) = true := by rw [bne_iff_ne]; omega
                clear hp0 hpn2
                go_wp2
                go_ret
                exact ⟨ret_bool hfin.out.symm, hB⟩
          · have hfin := hide (statsB_sum (s := d) (t := t) (by rw [← hSt.out]; exact hS9))
            go_wp2
            go_ret
            exact ⟨ret_bool hfin.out.symm, hB⟩
    · have hfin := hide (statsB_len (s := d) (t := t) (by rw [← hg1.out, ← hr1.out]; exact hbm))
      have hne : ((b : Int) != (m : Int)) = true := by rw [bne_iff_ne]; omega
      clear hbm
      go_enter Try.func30, Try.ntmps30
      go_wp2_with (fail)
      rw [← HW.out]
      refine (specSchemaOk_any _ _ d _ HSM.out).mono ?_
      rintro r w1 ⟨rfl, hb1⟩
      rw [H1.out]
      have hB := bthen hbox hb1
      obtain ⟨k0, k1, k2⟩ := hX.keep hb1
      obtain ⟨j0, j1, j2⟩ := hY.keep hb1
      clear hb1
      go_wp2
      go_ret
      exact ⟨ret_bool hfin.out.symm, hB⟩
end Go.Proofs.Ytjdncobdecdhmaa
