/-
  Contracts: equal schemas, the reference.
-/
import Derived.Test.YtohodehmidbmlaaDoorSchema5
namespace Go.Proofs.YtohodehmidbmlaaDoor
open Go.RowKit
set_option maxRecDepth 100000

set_option maxHeartbeats 4000000 in
theorem specSchemaSame_any (x0 x1 y0 y1 : Value) (d e : SchemaD) (w : World) (h : SchemaM w x0 x1 d) (h' : SchemaM w y0 y1 e) :
    Calls Tryd.prog 78 #[.agg #[x0, x1], .agg #[y0, y1]] w fun r w' => r = .returned (.bool (schemaSameB d e)) ∧ Below w.heap.size w w' := by
  obtain ⟨A, n, c, D, m, k, rfl, rfl, hl, hn, hr, -, hm, -⟩ := h
  obtain ⟨A', n', c', D', m', k', rfl, rfl, hl', hn', hr', -, hm', -⟩ := h'
  have hbox : Below w.heap.size w ((w.alloc (.cells #[.slice A n c, .slice D m k] 35)).alloc (.cells #[.slice A' n' c', .slice D' m' k'] 35)) := ((Below.refl _ _).alloc (Nat.le_refl _) _).alloc (by simp) _
  obtain ⟨W, hW⟩ : ∃ W, W = ((w.alloc (.cells #[.slice A n c, .slice D m k] 35)).alloc (.cells #[.slice A' n' c', .slice D' m' k'] 35)) := ⟨_, rfl⟩
  have hX := (Box2.new w (.slice A n c) (.slice D m k) 35).keep (Below.alloc (Below.refl _ _) (Nat.le_refl _) (.cells #[.slice A' n' c', .slice D' m' k'] 35))
  have hY := Box2.new (w.alloc (.cells #[.slice A n c, .slice D m k] 35)) (.slice A' n' c') (.slice D' m' k') 35
  have hz : (w.alloc (.cells #[.slice A n c, .slice D m k] 35)).heap.size = w.heap.size + 1 := by simp
  rw [hz] at hY
  clear hz
  rw [← hW] at hX hY
  have HL := hide (hl.keep hbox)
  have HL' := hide (hl'.keep hbox)
  have HR := hide (hr.keep hbox)
  have HR' := hide (hr'.keep hbox)
  rw [← hW] at HL HL' HR HR' hbox
  have HW := hide hW
  clear hl hr hl' hr' hW
  by_cases hnn : n = n'
  · subst hnn
    cases hq : decide (d.classes = e.classes)
    · have hfin := hide (show schemaSameB d e = false by rw [schemaSameB, hq]; rfl)
      have HQ := hide hq
      clear hq
      go_enter Tryd.func78, Tryd.ntmps78
      go_wp2_with (fail)
      rw [← HW.out]
      refine (sameTexts_any D D' m m' k k' d.classes e.classes _ HR.out HR'.out (by omega) (by omega)).mono ?_
      rintro e w' ⟨rfl, q, rfl⟩
      rw [HQ.out]
      go_wp2
      go_ret
      exact ⟨ret_bool hfin.out.symm, below_drewN hbox _⟩
    · have HQ := hide hq
      have hfin := hide (show schemaSameB d e = decide (d.attrs = e.attrs) by rw [schemaSameB, hq]; rfl)
      clear hq
      obtain ⟨k0, k1, k2⟩ := hX
      obtain ⟨j0, j1, j2⟩ := hY
      go_enter Tryd.func78, Tryd.ntmps78
      go_wp2_with (fail)
      rw [← HW.out]
      refine (sameTexts_any D D' m m' k k' d.classes e.classes _ HR.out HR'.out (by omega) (by omega)).mono ?_
      rintro e w' ⟨rfl, q, rfl⟩
      rw [HQ.out]
      go_wp2
      go_loopw [5] (fun i wr => ∃ K : Nat, K ≤ n ∧ i = .int .i64 K ∧ d.attrs.take K = e.attrs.take K ∧ ∃ q, wr = W.drewN q) (fun i _ => n - (intOf i).toNat)
      case atStart => exact ⟨0, Nat.zero_le _, rfl, by simp, q, rfl⟩
      case round =>
        obtain ⟨K, hk, rfl, htk, q, rfl⟩ := hrel
        have HT := hide htk
        clear htk
        by_cases hlt : K < n
        · obtain ⟨a1, A1, n1, c1, A2, n2, c2, rfl, _, g0, g1, g2, hI1⟩ := (HL.out).at_ hlt
          obtain ⟨a2, B1, m1, d1, B2, m2, d2, rfl, _, f0, f1, f2, hI2⟩ := (HL'.out).at_ hlt
          have hn1 := hI1.b1
          have hn2 := hI1.b2
          have hm1 := hI2.b1
          have hm2 := hI2.b2
          have H1 := hide hI1
          have H2 := hide hI2
          clear hI1 hI2
          have hi0 : (0 : Int) ≤ K := by omega
          have hi1 : (K : Int) < n := by omega
          obtain ⟨a, ha⟩ : ∃ a, a = d.attrs[K]?.getD default := ⟨_, rfl⟩
          obtain ⟨b, hb⟩ : ∃ b, b = e.attrs[K]?.getD default := ⟨_, rfl⟩
          rw [← ha] at g0 H1
          rw [← hb] at f0 H2
          by_cases he : a = b
          · have HS := hide (take_eq_step default (by have := HL.out.1; omega) (by have := HL'.out.1; omega) HT.out (ha ▸ hb ▸ he))
            have hN := str_bne (congrArg AttrD.name he)
            have hN2 := str_beq (congrArg AttrD.name he)
            have hC := hide (show decide (a.cuts = b.cuts) = true by rw [he]; simp)
            have hV := hide (show decide (a.vals = b.vals) = true by rw [he]; simp)
            clear he ha hb
            go_wp2
            go_quiet (first
              | (go_at_call 123; exact quiet_add ((sameInts_any A1 B1 n1 m1 c1 d1 _ _ _ (H1.out.cuts.keep (below_drewN (Below.refl _ _) _)) (H2.out.cuts.keep (below_drewN (Below.refl _ _) _)) (by omega) (by omega)).mono fun _ _ h => ⟨h.1.trans (ret_bool hC.out), h.2⟩))
              | (go_at_call 127; exact quiet_add ((sameTexts_any A2 B2 n2 m2 c2 d2 _ _ _ (H1.out.vals.keep (below_drewN (Below.refl _ _) _)) (H2.out.vals.keep (below_drewN (Below.refl _ _) _)) (by omega) (by omega)).mono fun _ _ h => ⟨h.1.trans (ret_bool hV.out), h.2⟩)))
            go_wp2
            go_roundw
            case rel => exact ⟨K + 1, by omega, by go_num, HS.out, _, rfl⟩
            case measure => simp [intOf]; omega
          · have HS := hide (show ¬ d.attrs = e.attrs from take_ne_step default (k := K) (fun h => he (by rw [ha, hb]; exact h)))
            clear ha hb
            by_cases hN : a.name = b.name
            · have hN1 := str_bne hN
              have hN2 := str_beq hN
              by_cases hC : a.cuts = b.cuts
              · have hV : ¬ a.vals = b.vals := fun h => he (AttrD.ext_ hN hC h)
                have HC := hide (show decide (a.cuts = b.cuts) = true by simpa using hC)
                have HV := hide (show decide (a.vals = b.vals) = false by simpa using hV)
                clear he hN hC hV
                go_wp2
                go_quiet (first
                  | (go_at_call 123; exact quiet_add ((sameInts_any A1 B1 n1 m1 c1 d1 _ _ _ (H1.out.cuts.keep (below_drewN (Below.refl _ _) _)) (H2.out.cuts.keep (below_drewN (Below.refl _ _) _)) (by omega) (by omega)).mono fun _ _ h => ⟨h.1.trans (ret_bool HC.out), h.2⟩))
                  | (go_at_call 127; exact quiet_add ((sameTexts_any A2 B2 n2 m2 c2 d2 _ _ _ (H1.out.vals.keep (below_drewN (Below.refl _ _) _)) (H2.out.vals.keep (below_drewN (Below.refl _ _) _)) (by omega) (by omega)).mono fun _ _ h => ⟨h.1.trans (ret_bool HV.out), h.2⟩)))
                go_wp2
                go_ret
                exact ⟨ret_bool (by rw [hfin.out]; simp [HS.out]), below_drewN (below_drewN hbox _) _⟩
              · have HC := hide (show decide (a.cuts = b.cuts) = false by simpa using hC)
                clear he hN hC
                go_wp2
                go_quiet ((go_at_call 123; exact quiet_add ((sameInts_any A1 B1 n1 m1 c1 d1 _ _ _ (H1.out.cuts.keep (below_drewN (Below.refl _ _) _)) (H2.out.cuts.keep (below_drewN (Below.refl _ _) _)) (by omega) (by omega)).mono fun _ _ h => ⟨h.1.trans (ret_bool HC.out), h.2⟩)))
                go_wp2
                go_ret
                exact ⟨ret_bool (by rw [hfin.out]; simp [HS.out]), below_drewN (below_drewN hbox _) _⟩
            · have hN1 := str_bne_no hN
              have hN2 := str_beq_no hN
              clear he hN
              go_wp2
              go_quiet (fail)
              go_wp2
              go_ret
              exact ⟨ret_bool (by rw [hfin.out]; simp [HS.out]), below_drewN (below_drewN hbox _) _⟩
        · have HS := hide (show d.attrs = e.attrs by
            have h := HT.out
            rwa [List.take_of_length_le (by have := HL.out.1; omega), List.take_of_length_le (by have := HL'.out.1; omega)] at h)
          go_wp2
          go_ret
          exact ⟨ret_bool (by rw [hfin.out]; simp [HS.out]), below_drewN hbox _⟩
  · have HS := hide (show ¬ d.attrs = e.attrs by
      intro h
      have h1 := HL.out.1
      have h2 := HL'.out.1
      rw [h] at h1
      omega)
    have hne : ((n : Int) != (n' : Int)) = true := by rw [bne_iff_ne]; omega
    clear hnn
    go_enter Tryd.func78, Tryd.ntmps78
    go_wp2
    rw [← HW.out]
    go_ret
    exact ⟨ret_bool (by simp [schemaSameB, HS.out]), hbox⟩
end Go.Proofs.YtohodehmidbmlaaDoor
