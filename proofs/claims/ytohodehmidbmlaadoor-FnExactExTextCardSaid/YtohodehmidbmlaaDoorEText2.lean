/-
  Contracts: the text of an example, the reference's side.
-/
import Derived.Test.YtohodehmidbmlaaDoorEText
import Derived.Deep.RegionLaw
namespace Go.Proofs.YtohodehmidbmlaaDoor
open Go.RowKit
set_option maxRecDepth 100000
theorem one_cell {W : World} {ad : Addr} {u : Value} (h : W.cell? ad = some u) : ∀ j v, ([u] : List Value)[j]? = some v → ∃ a, some ad = some a ∧ W.cell? (a.add j) = some v := by
  intro j v hv
  rcases j with _ | j
  · simp only [List.getElem?_cons_zero, Option.some.injEq] at hv
    subst hv
    exact ⟨ad, rfl, by rw [show ad.add 0 = ad by simp [Addr.add]]; exact h⟩
  · simp at hv
theorem one_new (W : World) (u : Value) (e : TypeId) : ∀ j v, ([u] : List Value)[j]? = some v → ∃ a, some (⟨W.heap.size, 0, none⟩ : Addr) = some a ∧ (W.alloc (.cells #[u] e)).cell? (a.add j) = some v :=
  one_cell (by rw [cell_of_row _ W.heap.size 0 #[u] e (0, 0) (heap_alloc_new W _)]; rfl)

set_option maxHeartbeats 8000000 in
theorem specExText_any (x0 x1 y0 y1 : Value) (d : SchemaD) (e : ExD) (w : World) (h : SchemaM w x0 x1 d) (h' : ExM w y0 y1 e) :
    Calls Tryd.prog 63 #[.agg #[x0, x1], .agg #[y0, y1]] w fun r w' => r = .returned (.string (exT d e)) ∧ Below w.heap.size w w' := by
  have hSM := hide h
  have hEM := hide h'
  obtain ⟨A, n, c, D, m, k, rfl, rfl, hl, hn, hr, hs, hm, hmk⟩ := h
  obtain ⟨G, b, f, rfl, rfl, hg, hb, hwf⟩ := h'
  have hbox : Below w.heap.size w ((w.alloc (.cells #[.slice A n c, .slice D m k] 35)).alloc (.cells #[.slice G b f, .int .i64 e.cls] 30)) := ((Below.refl _ _).alloc (Nat.le_refl _) _).alloc (by simp) _
  obtain ⟨W, hW⟩ : ∃ W, W = ((w.alloc (.cells #[.slice A n c, .slice D m k] 35)).alloc (.cells #[.slice G b f, .int .i64 e.cls] 30)) := ⟨_, rfl⟩
  have hX := (Box2.new w (.slice A n c) (.slice D m k) 35).keep (Below.alloc (Below.refl _ _) (Nat.le_refl _) (.cells #[.slice G b f, .int .i64 e.cls] 30))
  have hY := Box2.new (w.alloc (.cells #[.slice A n c, .slice D m k] 35)) (.slice G b f) (.int .i64 e.cls) 30
  have hz : (w.alloc (.cells #[.slice A n c, .slice D m k] 35)).heap.size = w.heap.size + 1 := by simp
  rw [hz] at hY
  clear hz
  rw [← hW] at hX hY
  have HL := hide (hl.keep hbox)
  have HR := hide (hr.keep hbox)
  have HG := hide (hg.keep hbox)
  have HSM := hide (hSM.out.keep hbox)
  have HEM := hide (hEM.out.keep hbox)
  rw [← hW] at HL HR HG hbox HSM HEM
  have hl1 := hide hl.1
  have hr1 := hide hr.1
  have hg1 := hide hg.1
  have HW := hide hW
  have hcl := bounds_i64 hwf
  clear hl hr hs hW hg hSM hEM
  obtain ⟨j0, j1, j2⟩ := id hX
  obtain ⟨i0, i1, i2⟩ := id hY
  cases hok : exB d e
  · have hfin := hide (exT_no hok)
    go_enter Tryd.func63, Tryd.ntmps63
    go_wp2_with (fail)
    rw [← HW.out]
    refine (specExOk_any _ _ _ _ d e _ HSM.out HEM.out).mono ?_
    rintro r w1 ⟨rfl, hb1⟩
    rw [hok]
    have hB := bthen hbox hb1
    clear hb1 hX hY j0 j1 j2 i0 i1 i2
    go_wp2
    go_ret
    exact ⟨by rw [hfin.out]; rfl, hB⟩
  have hfin := hide (exT_yes hok)
  obtain ⟨g1, g2, ⟨g3, g4⟩, -⟩ := exB_parts hok
  obtain ⟨⟨q1, q2⟩, ⟨q3, q4⟩, q5, -⟩ := schemaB_parts g1
  have hcz := clsT_size hok
  have HOK := hide hok
  have hbn : b = n := by have := hl1.out; have := hg1.out; omega
  subst hbn
  have hn5 : b ≤ 5 := by have := hl1.out; omega
  have hm3 : m ≤ 3 := by have := hr1.out; omega
  have hcm : e.cls < m := by have := hr1.out; omega
  have hJs := joinB_small (l := cellsT d e e.bins.length) (sep := ⟨#[44]⟩) (by rw [cellsT_len]; omega) (cellsT_size _ _ _) (by decide)
  rw [← hg1.out] at hfin hJs
  obtain ⟨J, hJ⟩ : ∃ J, J = joinB (cellsT d e b) ⟨#[44]⟩ := ⟨_, rfl⟩
  obtain ⟨Cl, hCl⟩ : ∃ J, J = clsT d e := ⟨_, rfl⟩
  obtain ⟨X, hXc⟩ : ∃ x, x = e.cls := ⟨_, rfl⟩
  rw [← hJ] at hfin hJs
  rw [← hCl] at hfin hcz
  have HJ := hide hJ
  have HCl := hide (show Cl = if 0 ≤ X then d.classes[X.toNat]?.getD ByteArray.empty else ⟨#[63]⟩ by rw [hCl, hXc]; rfl)
  rw [← hXc] at hcl g3 g4 hcm i1 hY HW
  have z1 : ¬ 9223372036854775807 < J.size + 1 := by omega
  have z2 : ¬ 9223372036854775807 < J.size + 1 + Cl.size := by omega
  have hXcc := hide hXc
  clear hok g1 g2 g4 q1 q2 q3 q4 q5 hJ hCl hXc i0 i1 i2 j0 j1 j2
  go_enter Tryd.func63, Tryd.ntmps63
  obtain ⟨j0, j1, j2⟩ := id hX
  obtain ⟨i0, i1, i2⟩ := id hY
  rw [← hXcc.out]
  go_wp2_with (fail)
  rw [← HW.out]
  refine (specExOk_any _ _ _ _ d e _ HSM.out (by rw [hXcc.out]; exact HEM.out)).mono ?_
  rintro r w1 ⟨rfl, hb1⟩
  rw [HOK.out]
  have hB := bthen hbox hb1
  clear j0 j1 j2 i0 i1 i2
  replace hX := hX.keep hb1
  replace hY := hY.keep hb1
  replace HL := hide (HL.out.keep hb1)
  replace HR := hide (HR.out.keep hb1)
  replace HG := hide (HG.out.keep hb1)
  clear hb1 hbox HSM HEM
  have hown0 := own_empty w1 w1.heap.size 9 1 (Nat.le_refl _)
  obtain ⟨j0, j1, j2⟩ := id hX
  obtain ⟨i0, i1, i2⟩ := id hY
  go_wp2
  clear j0 j1 j2 i0 i1 i2
  go_loopw [5, 6] (fun v i wr => ∃ K : Nat, K ≤ b ∧ i = .int .i64 K ∧ (∃ G M, v = .slice G K M) ∧ wr.ownsRow w1.heap.size 9 1 v K ((cellsT d e K).map Value.string) ∧ Below w1.heap.size w1 wr) (fun _ i _ => b - (intOf i).toNat)
  case atStart => exact ⟨0, Nat.zero_le _, rfl, ⟨_, _, rfl⟩, by simpa [cellsT] using hown0, (Below.refl _ _).alloc (Nat.le_refl _) _⟩
  case round =>
    clear hown0
    obtain ⟨K, hk, rfl, ⟨T, M, rfl⟩, hown, hbel⟩ := hrel
    have hXr := hX.keep hbel
    have hYr := hY.keep hbel
    by_cases hlt : K < b
    · obtain ⟨ad, A1, n1, c1, A2, n2, c2, rfl, hbk, g0, g1, g2, hI⟩ := (HL.out.keep hbel).at_ hlt
      obtain ⟨au, rfl, hub, hcell⟩ := (HG.out.keep hbel).at_ hlt
      have hst := hide (cellsT_snoc d e K)
      obtain ⟨a, ha⟩ : ∃ a, a = d.attrs[K]?.getD default := ⟨_, rfl⟩
      obtain ⟨x, hx⟩ : ∃ x, x = e.bins[K]?.getD 0 := ⟨_, rfl⟩
      rw [← ha] at g0 hI hst
      rw [← hx] at hcell hst
      clear ha hx
      have HI := hide hI
      clear hI
      obtain ⟨j0, j1, j2⟩ := id hXr
      obtain ⟨i0, i1, i2⟩ := id hYr
      have hsz1 := hbel.size
      have HO := hide hown
      have HBel := hide hbel
      have hi0 : (0 : Int) ≤ K := by omega
      have hi1 : (K : Int) < b := by omega
      clear hown hbel
      go_wp2
      have hsz0 : wr.heap.size < wr.heap.size + 1 := by omega
      have hgo := hide (fun (W w7 : World) (hW : Below wr.heap.size wr W) (hb7 : Below W.heap.size W w7) => (⟨own_below HO.out (bthen hW hb7), bthen hW hb7⟩ : w7.ownsRow w1.heap.size 9 1 (.slice T K M) K ((cellsT d e K).map Value.string) ∧ Below wr.heap.size wr w7))
      go_region_law (first
        | (go_simp; go_at_call 44; refine (specCellText_any _ _ _ _ _ _ a x _ (HI.out.keep ((Below.refl _ _).drew))).mono ?_; rintro r w7 ⟨rfl, hb7⟩; have hp := hide (hgo.out _ _ (Below.refl _ _).drew hb7))
        | (refine step_append_src _ rfl (.tmp 20) (.tmp 32) 23 rfl w1.heap.size 9 (.string ⟨#[]⟩) 1 16 Tryd.underlying23 infoS rfl (by decide) (.slice T K M) K _ [.string (cellT a x)] rfl (hp.out.1.alloc _) _ 1 1 rfl rfl (one_new _ _ _) (by simp [Value.oneCell']) (by unfold maxLen; omega) (by omega) (by have := hp.out.2.size; simp; omega) ?_; intro v' w8 hown8 hb8 _ _))
      all_goals
        have hbel3 := (HBel.out.trans (hp.out.2.mono (by omega))).trans (((Below.refl _ w7).alloc (Nat.le_refl _) (.cells #[.string (cellT a x)] 9)).mono (by have := hp.out.2.size; omega))
        have hbel4 := hbel3.trans hb8
        clear hp hb7
        go_wp2
        exact ⟨⟨K + 1, by omega, by go_num, own_shape hown8, by rw [hst.out]; exact hown8, hbel4⟩, by simp [intOf]; omega⟩
    · obtain rfl : K = b := by omega
      have HT1 := hide (strs_of hown)
      have hcap := own_cap hown
      have HRr := hide (HR.out.keep hbel)
      have hB3 := bthen hB hbel
      clear hown
      obtain ⟨j0, j1, j2⟩ := id hXr
      obtain ⟨i0, i1, i2⟩ := id hYr
      by_cases hc0 : 0 ≤ X
      · obtain ⟨C0, rfl⟩ : ∃ C0 : Nat, X = C0 := ⟨X.toNat, by omega⟩
        obtain ⟨av, rfl, hvb, hcell⟩ := (HRr.out).at_ (k := C0) (by omega)
        have hcc := hide (show Cl = d.classes[C0]?.getD ByteArray.empty by rw [HCl.out, if_pos hc0]; rfl)
        rw [← hcc.out] at hcell
        have hC0 : C0 < m := by omega
        clear hcm g3
        go_wp2_with (fail)
        refine (l5Join_any T K M (cellsT d e K) ⟨#[44]⟩ _ HT1.out (by omega) (cellsT_size _ _ _) (by decide)).mono ?_
        rintro r w2 ⟨rfl, rfl⟩
        rw [← HJ.out]
        have hfin2 := hide (show joinB (cellsT d e K) ⟨#[44]⟩ = J from HJ.out.symm)
        have hBf := hB3
        go_wp2
        go_ret
        exact ⟨by rw [hfin.out]; rfl, hBf⟩
      · have hcc := hide (show Cl = ⟨#[63]⟩ by rw [HCl.out, if_neg hc0])
        rw [hcc.out] at z2 hfin
        go_wp2_with (fail)
        refine (l5Join_any T K M (cellsT d e K) ⟨#[44]⟩ _ HT1.out (by omega) (cellsT_size _ _ _) (by decide)).mono ?_
        rintro r w2 ⟨rfl, rfl⟩
        rw [← HJ.out]
        have hBf := hB3
        go_wp2
        go_ret
        exact ⟨by rw [hfin.out]; rfl, hBf⟩
end Go.Proofs.YtohodehmidbmlaaDoor
