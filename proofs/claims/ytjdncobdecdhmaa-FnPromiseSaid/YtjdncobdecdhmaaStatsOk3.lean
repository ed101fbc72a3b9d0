/-
  Contracts: right statistics, the program's walk.
-/
import Derived.Test.YtjdncobdecdhmaaStatsOk2
namespace Go.Proofs.Ytjdncobdecdhmaa
open Go.RowKit
set_option maxRecDepth 100000

set_option maxHeartbeats 8000000 in
theorem implStatsOk_any (x0 x1 y0 y1 : Value) (d : SchemaD) (t : StatsD) (w : World) (h : SchemaM w x0 x1 d) (h' : StatsM w y0 y1 t) :
    Calls Try.prog 70 #[.agg #[x0, x1], .agg #[y0, y1]] w fun r w' => r = .returned (.bool (statsB d t)) ∧ Below w.heap.size w w' := by
  have hSM := hide h
  obtain ⟨A, n, c, D, m, k, rfl, rfl, hl, hn, hr, hs, hm, hmk⟩ := h
  obtain ⟨G, b, f, E, p, q, rfl, rfl, hg, hb, hp, hpn⟩ := h'
  have hbox : Below w.heap.size w ((w.alloc (.cells #[.slice A n c, .slice D m k] 43)).alloc (.cells #[.slice G b f, .slice E p q] 39)) := ((Below.refl _ _).alloc (Nat.le_refl _) _).alloc (by simp) _
  obtain ⟨W, hW⟩ : ∃ W, W = ((w.alloc (.cells #[.slice A n c, .slice D m k] 43)).alloc (.cells #[.slice G b f, .slice E p q] 39)) := ⟨_, rfl⟩
  have hX := (Box2.new w (.slice A n c) (.slice D m k) 43).keep (Below.alloc (Below.refl _ _) (Nat.le_refl _) (.cells #[.slice G b f, .slice E p q] 39))
  have hY := Box2.new (w.alloc (.cells #[.slice A n c, .slice D m k] 43)) (.slice G b f) (.slice E p q) 39
  have hz : (w.alloc (.cells #[.slice A n c, .slice D m k] 43)).heap.size = w.heap.size + 1 := by simp
  rw [hz] at hY
  clear hz
  rw [← hW] at hX hY
  have HL := hide (hl.keep hbox)
  have HG := hide (hg.keep hbox)
  have HE := hide (hp.keep hbox)
  have HSM := hide (hSM.out.keep hbox)
  rw [← hW] at HL HG HE hbox HSM
  have hl1 := hide hl.1
  have hr1 := hide hr.1
  have hg1 := hide hg.1
  have hp1 := hide hp.1
  have HW := hide hW
  clear hl hr hs hW hg hSM hp
  cases h1 : schemaB d
  · have hfin := hide (statsB_schema (t := t) h1)
    have H1 := hide h1
    obtain ⟨k0, k1, k2⟩ := hX
    clear h1
    go_enter Try.func70, Try.ntmps70
    go_wp2_with (fail)
    rw [← HW.out]
    refine (implSchemaOk_any _ _ d _ HSM.out).mono ?_
    rintro r w1 ⟨rfl, hb1⟩
    rw [H1.out]
    have hB := bthen hbox hb1
    clear hb1
    go_wp2
    go_ret
    exact ⟨ret_bool hfin.out.symm, hB⟩
  · have H1 := hide h1
    clear h1
    have hXc := hide hX
    obtain ⟨k0, k1, k2⟩ := hX
    go_enter Try.func70, Try.ntmps70
    go_wp2_with (fail)
    rw [← HW.out]
    refine (implSchemaOk_any _ _ d _ HSM.out).mono ?_
    rintro r w1 ⟨rfl, hb1⟩
    rw [H1.out]
    have hB := bthen hbox hb1
    have hX1 := hXc.out.keep hb1
    have hY1 := hY.keep hb1
    have HL1 := hide (HL.out.keep hb1)
    have HG1 := hide (HG.out.keep hb1)
    have HE1 := hide (HE.out.keep hb1)
    clear hb1 k0 k1 k2 hY hbox HL HG HE hXc
    obtain ⟨k0, k1, k2⟩ := id hX1
    obtain ⟨j0, j1, j2⟩ := id hY1
    cases hw : weightsB b t.totals m
    · have hfin := hide (show statsB d t = false by
        unfold weightsB at hw
        by_cases hbm : b = m
        · rw [hbm, decide_eq_true rfl, Bool.true_and] at hw
          exact statsB_wt hw
        · exact statsB_len (by rw [← hg1.out, ← hr1.out]; exact hbm))
      have Hw := hide hw
      clear hw
      go_wp2_with (fail)
      refine (weights_any G b f t.totals _ _ HG1.out (by omega)).mono ?_
      rintro e w' ⟨rfl, rfl⟩
      rw [Hw.out]
      go_wp2
      go_ret
      exact ⟨ret_bool hfin.out.symm, hB⟩
    · have hbm : b = m := by
        unfold weightsB at hw
        rw [Bool.and_eq_true] at hw
        have := of_decide_eq_true hw.1
        omega
      have hwt : t.totals.all wt = true := by
        unfold weightsB at hw
        rw [Bool.and_eq_true] at hw
        exact hw.2
      subst hbm
      have Hw := hide hw
      have HWT := hide hwt
      have hm23 := hide (show b = 2 ∨ b = 3 by rw [hr1.out]; exact schemaB_classes H1.out)
      have hm3 : b ≤ 3 := by rcases hm23.out with h | h <;> omega
      have hm2 : 2 ≤ b := by rcases hm23.out with h | h <;> omega
      have hlen := hide (show t.totals.length = d.classes.length by rw [← hg1.out, ← hr1.out])
      obtain ⟨S, hS⟩ : ∃ S, S = t.totals.sum := ⟨_, rfl⟩
      have hsb := sum_bd hwt
      rw [← hS, ← hg1.out] at hsb
      obtain ⟨hs0, hs1⟩ := hsb
      have HS := hide hS
      clear hw hwt hS
      go_wp2_with (fail)
      refine (weights_any G b f t.totals _ _ HG1.out (by omega)).mono ?_
      rintro e w' ⟨rfl, rfl⟩
      rw [Hw.out]
      go_wp2_with (fail)
      refine (total_any G b f t.totals _ HG1.out (by omega) HWT.out).mono ?_
      rintro e w' ⟨rfl, rfl⟩
      rw [← HS.out]
      by_cases hS9 : S ≤ 999
      · have hS9' := hide (show t.totals.sum ≤ 999 by rw [← HS.out]; exact hS9)
        by_cases hp0 : p = 0
        · have hfin := hide (statsB_none H1.out hlen.out HWT.out hS9'.out (by rw [← hp1.out]; exact hp0))
          have hpe : ((p : Int) == 0) = true := by rw [hp0]; rfl
          clear hp0
          go_wp2
          go_ret
          exact ⟨ret_bool hfin.out.symm, hB⟩
        · have hp0' := hide (show ¬ t.cells.length = 0 by rw [← hp1.out]; exact hp0)
          have hpe : ((p : Int) == 0) = false := by rw [beq_eq_false_iff_ne]; omega
          by_cases hpn2 : p = n
          · subst hpn2
            have hfin := hide (show (List.range t.cells.length).all (rowAt d t) = true → statsB d t = true from statsB_all H1.out hlen.out HWT.out hS9'.out (by rw [← hp1.out, ← hl1.out]))
            clear hp0
            go_wp2
            clear k0 k1 k2 j0 j1 j2
            go_loopw [44] (fun i wr => ∃ K' : Nat, K' ≤ p ∧ i = .int .i64 K' ∧ Hid ((List.range K').all (rowAt d t) = true) ∧ Below w1.heap.size w1 wr) (fun i _ => p - (intOf i).toNat)
            case atStart => exact ⟨0, Nat.zero_le _, rfl, show _ = _ by simp, Below.refl _ _⟩
            case round =>
              obtain ⟨K', hk', rfl, hall, hbel⟩ := hrel
              obtain ⟨k0, k1, k2⟩ := hX1.keep hbel
              obtain ⟨j0, j1, j2⟩ := hY1.keep hbel
              have hend := hide (bthen hB hbel)
              by_cases hlt : K' < p
              · obtain ⟨ad, A1, n1, c1, A2, n2, c2, rfl, hbk, g0, g1, g2, hI⟩ := (HL1.out.keep hbel).at_ hlt
                obtain ⟨ae, A', n', c', rfl, hbe, hce, hn', hIr⟩ := (HE1.out.keep hbel).at_ hlt
                have hkl := hide (show K' < t.cells.length by have := hp1.out; omega)
                have hkl2 := hide (show K' < d.attrs.length by have := hl1.out; omega)
                obtain ⟨a, ha⟩ : ∃ a, a = d.attrs[K']?.getD default := ⟨_, rfl⟩
                rw [← ha] at g0 hI
                have HA := hide ha
                have hn1 := hI.b1
                have hbn := hide (show binsOf a = binN n1 n2 by
                  have hok : attrB a = true := by
                    rw [ha, getD_of_lt hkl2.out]
                    exact schemaB_attr H1.out (List.getElem_mem _)
                  rw [binsOf, binN, if_pos hok, ← hI.cuts.1, ← hI.vals.1])
                have hbd := binsOf_bd a
                obtain ⟨Z, hZ⟩ : ∃ Z : Nat, binsOf a = (Z : Int) := ⟨(binsOf a).toNat, by omega⟩
                have hZ4 : Z ≤ 4 := by omega
                have HZ := hide hZ
                have HZ2 := hide (show binN n1 n2 = (Z : Int) by rw [← hbn.out, hZ])
                obtain ⟨l, hl⟩ : ∃ l, l = t.cells[K']?.getD [] := ⟨_, rfl⟩
                rw [← hl] at hIr
                have HR := hide hIr
                have hrow := hide (show rowAt d t K' = rowB a l t.totals b by rw [rowAt, ← HA.out, ← hl, ← hr1.out])
                clear ha hI hbd hZ hIr hl
                obtain ⟨P, hP⟩ : ∃ P, P = Z * b := ⟨_, rfl⟩
                have hP12 : P ≤ 12 := by rw [hP]; exact mul_bd hZ4 hm23.out
                have HP := hide hP
                clear hP
                have hmul : IntKind.i64.wrap ((Z : Int) * (b : Int)) = (P : Int) := wrap_of (by rw [HP.out, Int.natCast_mul]) (by omega) (by omega)
                have hi0 : (0 : Int) ≤ K' := by omega
                have hi1 : (K' : Int) < p := by omega
                go_wp2_with (fail)
                refine (bins_any _ _ _ _ _ _ _ _ hn1).mono ?_
                rintro r w2 ⟨rfl, hb2⟩
                rw [HZ2.out]
                have hbel2 := bthen hbel hb2
                have hend2 := hide (bthen hB hbel2)
                have HR2 := hide (HR.out.keep hb2)
                clear hb2 hbel g0 g1 g2 k0 k1 k2 j0 j1 j2 hbk hend hce hbe
                go_wp2_with (fail)
                refine (weights_any A' n' c' l _ _ HR2.out (by omega)).mono ?_
                rintro e w' ⟨rfl, rfl⟩
                clear hmul
                cases hwr : weightsB n' l P
                · have hbad := hide (statsB_row hp0'.out hkl.out (by
                    rw [hrow.out]
                    unfold weightsB at hwr
                    by_cases hnP : (n' : Int) = P
                    · rw [decide_eq_true hnP, Bool.true_and] at hwr
                      exact rowB_wt hm23.out hwr
                    · refine rowB_len ?_
                      rw [← HR.out.1, HZ.out, ← Int.natCast_mul, ← HP.out]
                      exact hnP))
                  clear hwr
                  go_wp2
                  go_ret
                  exact ⟨ret_bool hbad.out.symm, hend2.out⟩
                · have hnP : n' = P := by
                    unfold weightsB at hwr
                    rw [Bool.and_eq_true] at hwr
                    have := of_decide_eq_true hwr.1
                    omega
                  have hlw := hide (show l.all wt = true by
                    unfold weightsB at hwr
                    rw [Bool.and_eq_true] at hwr
                    exact hwr.2)
                  have hlz := hide (show (l.length : Int) = binsOf a * b by rw [← HR.out.1, hnP, HP.out, HZ.out, Int.natCast_mul])
                  have hn12 : n' ≤ 12 := by omega
                  clear hwr hnP
                  go_wp2_with (fail)
                  refine (zeros_any b _ (by omega)).mono ?_
                  rintro e w3 ⟨rfl, hz, hb3⟩
                  rw [← sumsL_zero l b] at hz
                  have HZ0 := hide hz
                  have hgt := hide (show ∀ k, k < b → pSum l b k 0 ≤ t.totals[k]?.getD 0 by
                    intro k hk
                    show (0 : Int) ≤ _
                    have hkt : k < t.totals.length := by have := hg1.out; omega
                    have h := HWT.out
                    rw [List.all_eq_true] at h
                    rw [List.getElem?_eq_getElem hkt, Option.getD_some]
                    exact (inB_iff.1 (h _ (List.getElem_mem _))).1)
                  clear hz
                  go_wp2
                  go_loopw [64] (fun i wr => ∃ K : Nat, K ≤ n' ∧ i = .int .i64 K ∧ wr.ownsRow w2.heap.size 3 1 (.slice (some ⟨w2.heap.size, 0, none⟩) b b) b ((sumsL l b K).map (Value.int .i64)) ∧ Hid (∀ k, k < b → pSum l b k K ≤ t.totals[k]?.getD 0) ∧ Below w2.heap.size w2 wr) (fun i _ => n' - (intOf i).toNat)
                  case atStart => exact ⟨0, Nat.zero_le _, rfl, HZ0.out, hgt, hb3⟩
                  case round =>
                    clear hb3 HZ0 hgt
                    obtain ⟨K, hk, rfl, hown, hgt, hbr⟩ := hrel
                    have hbel3 := hide (bthen hbel2 hbr)
                    have hend3 := hide (bthen hend2.out hbr)
                    by_cases hKn : K < n'
                    · obtain ⟨ar, rfl, _, hcr⟩ := (HR2.out.keep hbr).at_ hKn
                      obtain ⟨y, hy⟩ : ∃ y, y = l[K]?.getD 0 := ⟨_, rfl⟩
                      rw [← hy] at hcr
                      have hkl3 := hide (show K < l.length by have := HR.out.1; omega)
                      have hy01 : 0 ≤ y ∧ y ≤ 999 := by
                        have h := hlw.out
                        rw [List.all_eq_true] at h
                        rw [hy, List.getElem?_eq_getElem hkl3.out, Option.getD_some]
                        exact inB_iff.1 (h _ (List.getElem_mem _))
                      obtain ⟨hy0, hy1⟩ := hy01
                      obtain ⟨R, hR⟩ : ∃ R, R = K % b := ⟨_, rfl⟩
                      have hRb : R < b := by rw [hR]; exact Nat.mod_lt _ (by omega)
                      have hrem : (K : Int) % (b : Int) = (R : Int) := by rw [hR, Int.natCast_emod]
                      obtain ⟨T, hT⟩ : ∃ T, T = pSum l b R K := ⟨_, rfl⟩
                      have hTb := pSum_bd (l := l) (c := b) (k := R) (by have h := hlw.out; rwa [List.all_eq_true] at h) K
                      rw [← hT] at hTb
                      obtain ⟨hT0, hT1⟩ := hTb
                      have hc0 := (hown.cellAt R (by omega)).trans (sumsL_at hRb)
                      rw [← hT] at hc0
                      have hf0 := hown.frozenAt R
                      have hst := hown.stored R (.int .i64 (T + y))
                      have hown' := hide (show (wr.setCell ⟨w2.heap.size, R, none⟩ (.int .i64 (T + y))).ownsRow w2.heap.size 3 1 (.slice (some ⟨w2.heap.size, 0, none⟩) b b) b ((sumsL l b (K + 1)).map (Value.int .i64)) by
                        rw [← sumsL_step, ← hR, ← hT, ← hy]; exact hst.1)
                      have hbr' := hbr.setCell (p := ⟨w2.heap.size, R, none⟩) (Nat.le_refl _) (.int .i64 (T + y))
                      have hTy := hide (show T + y = pSum l b R (K + 1) by rw [pSum, if_pos hR.symm, ← hT, ← hy])
                      have hgt2 := hide (show T + y ≤ t.totals[R]?.getD 0 → ∀ k, k < b → pSum l b k (K + 1) ≤ t.totals[k]?.getD 0 by
                        intro h k hk'
                        by_cases e : k = R
                        · subst e; rw [← hTy.out]; exact h
                        · rw [pSum, if_neg (by omega), Int.add_zero]; exact hgt.out k hk')
                      have hbadR := hide (show t.totals[R]?.getD 0 < T + y → rowAt d t K' = false by
                        intro h
                        rw [hrow.out]
                        exact rowB_over hm23.out hlw.out hkl3.out (by rw [← hR, ← hTy.out]; exact h))
                      obtain ⟨V, hV⟩ : ∃ V, V = wr.setCell ⟨w2.heap.size, R, none⟩ (.int .i64 (T + y)) := ⟨_, rfl⟩
                      rw [← hV] at hown' hbr'
                      have HV := hide hV
                      have hR0 : (0 : Int) ≤ R := by omega
                      have hR1 : (R : Int) < b := by omega
                      have hK0 : (0 : Int) ≤ K := by omega
                      have hK1 : (K : Int) < n' := by omega
                      have hbP : (0 : Int) < b := by omega
                      have hdv : (b : Int) ≠ 0 := by omega
                      clear hst hy hT hR hgt hV hbr
                      go_wp2
                      rw [← HV.out]
                      have hcV : V.cell? ⟨w2.heap.size, R, none⟩ = some (.int .i64 (T + y)) := by
                        have h := (hown'.out.cellAt R (by omega)).trans (sumsL_at hRb)
                        rwa [← hTy.out] at h
                      have hbV := bthen hbel2 hbr'
                      have hendV := hide (bthen hend2.out hbr')
                      obtain ⟨j0, j1, j2⟩ := hY1.keep hbV
                      obtain ⟨at_, rfl, _, hct⟩ := (HG1.out.keep hbV).at_ hRb
                      obtain ⟨x, hx⟩ : ∃ x, x = t.totals[R]?.getD 0 := ⟨_, rfl⟩
                      rw [← hx] at hct hbadR hgt2
                      clear hc0 hf0 hcr hx
                      by_cases hover : T + y ≤ x
                      · have hgt' := hide (hgt2.out hover)
                        go_quiet (fail)
                        clear hrem
                        go_wp2
                        go_roundw
                        case rel => exact ⟨K + 1, by omega, by go_num, hown'.out, hgt', below_drewN hbr' _⟩
                        case measure => simp [intOf]; omega
                      · have hbad := hide (statsB_row hp0'.out hkl.out (hbadR.out (by omega)))
                        go_quiet (fail)
                        clear hrem
                        go_wp2
                        go_ret
                        exact ⟨ret_bool hbad.out.symm, below_drewN hendV.out _⟩
                    · obtain rfl : n' = K := by omega
                      have hall' := hide (range_snoc hall.out (by rw [hrow.out]; exact rowB_of hlz.out hlw.out (by rw [← HR.out.1]; exact hgt.out)))
                      go_wp2
                      go_roundw
                      case rel => exact ⟨K' + 1, by omega, by go_num, hall', hbel3.out⟩
                      case measure => simp [intOf]; omega
              · obtain rfl : p = K' := by omega
                have hf := hide (hfin.out (by rw [← hp1.out]; exact hall.out))
                go_wp2
                go_ret
                exact ⟨ret_bool hf.out.symm, hend.out⟩
          · have hfin := hide (statsB_cells (s := d) hp0'.out (by rw [← hp1.out, ← hl1.out]; exact hpn2))
            have hne : ((p : Int) != (n : Int)) = true := by rw [bne_iff_ne]; omega
            clear hp0 hpn2
            go_wp2
            go_ret
            exact ⟨ret_bool hfin.out.symm, hB⟩
      · have hfin := hide (statsB_sum (s := d) (t := t) (by rw [← HS.out]; exact hS9))
        go_wp2
        go_ret
        exact ⟨ret_bool hfin.out.symm, hB⟩
end Go.Proofs.Ytjdncobdecdhmaa
