/-
  Contracts: right examples, the program.
-/
import Derived.Test.YtohodehmidbmlaaDoorExOk
namespace Go.Proofs.YtohodehmidbmlaaDoor
open Go.RowKit
set_option maxRecDepth 100000

set_option maxHeartbeats 4000000 in
theorem implExOk_any (x0 x1 y0 y1 : Value) (d : SchemaD) (e : ExD) (w : World) (h : SchemaM w x0 x1 d) (h' : ExM w y0 y1 e) :
    Calls Tryd.prog 71 #[.agg #[x0, x1], .agg #[y0, y1]] w fun r w' => r = .returned (.bool (exB d e)) ∧ Below w.heap.size w w' := by
  have hSM := hide h
  obtain ⟨A, n, c, D, m, k, rfl, rfl, hl, hn, hr, hs, hm, hmk⟩ := h
  obtain ⟨G, b, f, rfl, rfl, hg, hb, hwf⟩ := h'
  have hbox : Below w.heap.size w ((w.alloc (.cells #[.slice A n c, .slice D m k] 35)).alloc (.cells #[.slice G b f, .int .i64 e.cls] 30)) := ((Below.refl _ _).alloc (Nat.le_refl _) _).alloc (by simp) _
  obtain ⟨W, hW⟩ : ∃ W, W = ((w.alloc (.cells #[.slice A n c, .slice D m k] 35)).alloc (.cells #[.slice G b f, .int .i64 e.cls] 30)) := ⟨_, rfl⟩
  have hX := (Box2.new w (.slice A n c) (.slice D m k) 35).keep (Below.alloc (Below.refl _ _) (Nat.le_refl _) (.cells #[.slice G b f, .int .i64 e.cls] 30))
  have hY := Box2.new (w.alloc (.cells #[.slice A n c, .slice D m k] 35)) (.slice G b f) (.int .i64 e.cls) 30
  have hz : (w.alloc (.cells #[.slice A n c, .slice D m k] 35)).heap.size = w.heap.size + 1 := by simp
  rw [hz] at hY
  clear hz
  rw [← hW] at hX hY
  have HL := hide (hl.keep hbox)
  have HG := hide (hg.keep hbox)
  have HSM := hide (hSM.out.keep hbox)
  rw [← hW] at HL HG hbox HSM
  have hl1 := hide hl.1
  have hr1 := hide hr.1
  have hg1 := hide hg.1
  have HW := hide hW
  have hcl := bounds_i64 hwf
  clear hl hr hs hW hg hSM
  cases h1 : schemaB d
  · have hfin := hide (exB_no (e := e) h1)
    have H1 := hide h1
    clear h1
    go_enter Tryd.func71, Tryd.ntmps71
    go_wp2_with (fail)
    rw [← HW.out]
    refine (implSchemaOk_any _ _ d _ HSM.out).mono ?_
    rintro r w1 ⟨rfl, hb1⟩
    rw [H1.out]
    have hB := bthen hbox hb1
    clear hb1
    go_wp2
    go_ret
    exact ⟨ret_bool hfin.out.symm, hB⟩
  · have H1 := hide h1
    clear h1
    by_cases hbn : b = n
    · subst hbn
      cases h3 : inB e.cls (-1) ((m : Int) - 1)
      · have hfin := hide (exB_cls (s := d) (e := e) (by rw [← hr1.out]; exact h3))
        have H3 := hide h3
        clear h3
        go_enter Tryd.func71, Tryd.ntmps71
        go_wp2_with (fail)
        rw [← HW.out]
        refine (implSchemaOk_any _ _ d _ HSM.out).mono ?_
        rintro r w1 ⟨rfl, hb1⟩
        rw [H1.out]
        have hB := bthen hbox hb1
        obtain ⟨k0, k1, k2⟩ := hX.keep hb1
        obtain ⟨j0, j1, j2⟩ := hY.keep hb1
        clear hb1
        go_wp2_with (fail)
        refine (within_any _ _ _ _).mono ?_
        rintro r w' ⟨rfl, rfl⟩
        rw [H3.out]
        go_wp2
        go_ret
        exact ⟨ret_bool hfin.out.symm, hB⟩
      · have hfin := hide (show (List.range e.bins.length).all (fitB d e) = true → exB d e = true from exB_all H1.out (by rw [← hl1.out, ← hg1.out]) (by rw [← hr1.out]; exact h3))
        have H3 := hide h3
        clear h3
        go_enter Tryd.func71, Tryd.ntmps71
        go_wp2_with (fail)
        rw [← HW.out]
        refine (implSchemaOk_any _ _ d _ HSM.out).mono ?_
        rintro r w1 ⟨rfl, hb1⟩
        rw [H1.out]
        have hB := bthen hbox hb1
        have hX1 := hX.keep hb1
        have hY1 := hY.keep hb1
        obtain ⟨k0, k1, k2⟩ := id hX1
        obtain ⟨j0, j1, j2⟩ := id hY1
        have HL1 := hide (HL.out.keep hb1)
        have HG1 := hide (HG.out.keep hb1)
        clear hb1 hX hY hbox
        go_wp2_with (fail)
        refine (within_any _ _ _ _).mono ?_
        rintro r w' ⟨rfl, rfl⟩
        rw [H3.out]
        go_wp2
        clear k0 k1 k2 j0 j1 j2
        go_loopw [32] (fun i wr => ∃ K : Nat, K ≤ b ∧ i = .int .i64 K ∧ Hid ((List.range K).all (fitB d e) = true) ∧ Below w1.heap.size w1 wr) (fun i _ => b - (intOf i).toNat)
        case atStart => exact ⟨0, Nat.zero_le _, rfl, show _ = _ by simp, Below.refl _ _⟩
        case round =>
          obtain ⟨K, hk, rfl, hall, hbel⟩ := hrel
          have hX2 := hX1.keep hbel
          have hY2 := hY1.keep hbel
          obtain ⟨k0, k1, k2⟩ := id hX2
          obtain ⟨j0, j1, j2⟩ := id hY2
          have hend := hide (bthen hB hbel)
          by_cases hlt : K < b
          · obtain ⟨ad, A1, n1, c1, A2, n2, c2, rfl, hbk, g0, g1, g2, hI⟩ := (HL1.out.keep hbel).at_ hlt
            obtain ⟨ag, rfl, hbg, hcell⟩ := (HG1.out.keep hbel).at_ hlt
            have hkl := hide (show K < e.bins.length by have := hg1.out; omega)
            have hkl2 := hide (show K < d.attrs.length by have := hl1.out; omega)
            have hbd := binsOf_bd (d.attrs[K]?.getD default)
            have hi0 : (0 : Int) ≤ K := by omega
            have hi1 : (K : Int) < b := by omega
            have hbn := hide (show binsOf (d.attrs[K]?.getD default) = binN n1 n2 by
              have hok : attrB (d.attrs[K]?.getD default) = true := by
                have h1 := H1.out
                unfold schemaB at h1
                simp only [Bool.and_eq_true] at h1
                have h2 := h1.2.2.2.1
                rw [List.all_eq_true] at h2
                rw [getD_of_lt hkl2.out]
                exact h2 _ (List.getElem_mem _)
              rw [binsOf, binN, if_pos hok, ← hI.cuts.1, ← hI.vals.1])
            have hn1 := hI.b1
            obtain ⟨x, hx⟩ : ∃ x, x = e.bins[K]?.getD 0 := ⟨_, rfl⟩
            rw [← hx] at hcell
            rw [hbn.out] at hbd
            have hft := hide (show fitB d e K = inB x (-1) (binN n1 n2 - 1) by rw [fitB, hbn.out, ← hx])
            clear hI hx hbk hbg
            go_wp2_with (fail)
            refine (bins_any _ _ _ _ _ _ _ _ hn1).mono ?_
            rintro r w7 ⟨rfl, hb7⟩
            have hbel2 := bthen hbel hb7
            have hend2 := hide (bthen hB hbel2)
            clear hb7 hbel hend hcell g0 g1 g2 k0 k1 k2 j0 j1 j2
            obtain ⟨z, hz⟩ : ∃ z, z = binN n1 n2 := ⟨_, rfl⟩
            rw [← hz] at hbd hft
            rw [← hz]
            clear hz
            go_wp2_with (fail)
            refine (within_any _ _ _ _).mono ?_
            rintro r w' ⟨rfl, rfl⟩
            cases hf : inB x (-1) (z - 1)
            · have hbad := hide (exB_bad hkl.out (by rw [hft.out]; exact hf))
              go_wp2
              go_ret
              exact ⟨ret_bool hbad.out.symm, hend2.out⟩
            · have hall' := hide (range_snoc hall.out (by rw [hft.out]; exact hf))
              go_wp2
              go_roundw
              case rel => exact ⟨K + 1, by omega, by go_num, hall', hbel2⟩
              case measure => simp [intOf]; omega
          · obtain rfl : K = b := by omega
            have hf := hide (hfin.out (by rw [← hg1.out]; exact hall.out))
            go_wp2
            go_ret
            exact ⟨ret_bool hf.out.symm, hend.out⟩
    · have hfin := hide (exB_len (s := d) (e := e) (by rw [← hl1.out, ← hg1.out]; exact hbn))
      have hne : ((b : Int) != (n : Int)) = true := by rw [bne_iff_ne]; omega
      clear hbn
      go_enter Tryd.func71, Tryd.ntmps71
      go_wp2_with (fail)
      rw [← HW.out]
      refine (implSchemaOk_any _ _ d _ HSM.out).mono ?_
      rintro r w1 ⟨rfl, hb1⟩
      rw [H1.out]
      have hB := bthen hbox hb1
      obtain ⟨k0, k1, k2⟩ := hX.keep hb1
      obtain ⟨j0, j1, j2⟩ := hY.keep hb1
      clear hb1
      go_wp2
      go_ret
      exact ⟨ret_bool hfin.out.symm, hB⟩
end Go.Proofs.YtohodehmidbmlaaDoor
