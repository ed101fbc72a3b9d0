/-
  Contracts: the text of an example; its law.
-/
import Derived.Test.YtohodehmidbmlaaDoorSText
import Derived.Test.YtohodehmidbmlaaDoorExOk2
import Derived.Test.YtohodehmidbmlaaDoorApp
namespace Go.Proofs.YtohodehmidbmlaaDoor
open Go.RowKit
set_option maxRecDepth 100000

theorem exB_parts {d : SchemaD} {e : ExD} (h : exB d e = true) : schemaB d = true ∧ e.bins.length = d.attrs.length ∧ (-1 ≤ e.cls ∧ e.cls ≤ (d.classes.length : Int) - 1) ∧ ∀ i, i < e.bins.length → fitB d e i = true := by
  unfold exB at h
  simp only [Bool.and_eq_true, decide_eq_true_eq] at h
  obtain ⟨h1, h2, h3, h4⟩ := h
  exact ⟨h1, h2, inB_iff.1 h3, fun i hi => List.all_eq_true.1 h4 i (List.mem_range.2 hi)⟩
/-- The texts of an example's cells. -/
def cellsT (d : SchemaD) (e : ExD) (k : Nat) : List ByteArray := (List.range k).map fun i => cellT (d.attrs[i]?.getD default) (e.bins[i]?.getD 0)
theorem cellsT_len (d : SchemaD) (e : ExD) (k : Nat) : (cellsT d e k).length = k := by simp [cellsT]
theorem cellsT_snoc (d : SchemaD) (e : ExD) (k : Nat) : (cellsT d e (k + 1)).map Value.string = (cellsT d e k).map Value.string ++ [.string (cellT (d.attrs[k]?.getD default) (e.bins[k]?.getD 0))] := by simp [cellsT, List.range_succ]
theorem cellT_size (a : AttrD) (b : Int) : (cellT a b).size ≤ 100 := by
  unfold cellT
  split
  · rename_i h
    obtain ⟨h1, h2⟩ := h
    split
    · decide
    · split
      · rename_i hv
        rcases attrB_parts h1 with ⟨p1, p2, p3, p4⟩ | ⟨p1, _⟩
        · rcases Nat.lt_or_ge b.toNat a.vals.length with hb | hb
          · rw [List.getElem?_eq_getElem hb, Option.getD_some]
            have := attrB_words h1 p1 _ (List.getElem_mem hb)
            omega
          · rw [List.getElem?_eq_none hb]; decide
        · omega
      · rename_i hv
        rcases attrB_parts h1 with ⟨p1, p2, p3, p4⟩ | ⟨p1, p2, p3, p4, p5⟩
        · omega
        · split
          · have h3 : -9999 ≤ a.cuts[b.toNat]?.getD 0 ∧ a.cuts[b.toNat]?.getD 0 ≤ 9998 := by
              rcases Nat.lt_or_ge b.toNat a.cuts.length with hb | hb
              · exact p5 _ hb
              · rw [List.getElem?_eq_none hb]; simp
            have := numB_sz _ (show -9223372036854775808 ≤ a.cuts[b.toNat]?.getD 0 by omega) (by omega)
            omega
          · have h3 := p5 (a.cuts.length - 1) (by omega)
            have := numB_sz (a.cuts[a.cuts.length - 1]?.getD 0 + 1) (by omega) (by omega)
            omega
  · decide
theorem cellsT_size (d : SchemaD) (e : ExD) (k : Nat) : ∀ s ∈ cellsT d e k, s.size ≤ 4096 := by
  intro s hs
  obtain ⟨i, _, rfl⟩ := List.mem_map.1 hs
  have := cellT_size (d.attrs[i]?.getD default) (e.bins[i]?.getD 0)
  omega
/-- The text of the class. -/
def clsT (d : SchemaD) (e : ExD) : ByteArray := if 0 ≤ e.cls then d.classes[e.cls.toNat]?.getD ByteArray.empty else ⟨#[63]⟩
/-- The text of an example. -/
def exT (d : SchemaD) (e : ExD) : ByteArray := if exB d e = true then joinB (cellsT d e e.bins.length) ⟨#[44]⟩ ++ ⟨#[124]⟩ ++ clsT d e else ⟨#[]⟩
theorem exT_no {d : SchemaD} {e : ExD} (h : exB d e = false) : exT d e = ⟨#[]⟩ := by unfold exT; rw [if_neg]; rw [h]; simp
theorem exT_yes {d : SchemaD} {e : ExD} (h : exB d e = true) : exT d e = joinB (cellsT d e e.bins.length) ⟨#[44]⟩ ++ ⟨#[124]⟩ ++ clsT d e := by unfold exT; rw [if_pos h]
theorem clsT_size {d : SchemaD} {e : ExD} (h : exB d e = true) : (clsT d e).size ≤ 8 := by
  obtain ⟨h1, _, h3, _⟩ := exB_parts h
  unfold clsT
  split
  · rcases Nat.lt_or_ge e.cls.toNat d.classes.length with hb | hb
    · rw [List.getElem?_eq_getElem hb, Option.getD_some]
      exact ((schemaB_parts h1).2.2.1 _ (List.getElem_mem hb)).2
    · rw [List.getElem?_eq_none hb]; decide
  · decide

set_option maxHeartbeats 8000000 in
theorem implExText_any (x0 x1 y0 y1 : Value) (d : SchemaD) (e : ExD) (w : World) (h : SchemaM w x0 x1 d) (h' : ExM w y0 y1 e) (ht : TabW w) :
    Calls Tryd.prog 65 #[.agg #[x0, x1], .agg #[y0, y1]] w fun r w' => r = .returned (.string (exT d e)) ∧ Below w.heap.size w w' := by
  have hSM := hide h
  have hEM := hide h'
  obtain ⟨A, n, c, D, m, k, rfl, rfl, hl, hn, hr, hs, hm, hmk⟩ := h
  obtain ⟨G, b, f, rfl, rfl, hg, hb, hwf⟩ := h'
  have hbox : Below w.heap.size w ((w.alloc (.cells #[.slice A n c, .slice D m k] 35)).alloc (.cells #[.slice G b f, .int .i64 e.cls] 30)) := ((Below.refl _ _).alloc (Nat.le_refl _) _).alloc (by simp) _
  obtain ⟨W, hW⟩ : ∃ W, W = ((w.alloc (.cells #[.slice A n c, .slice D m k] 35)).alloc (.cells #[.slice G b f, .int .i64 e.cls] 30)) := ⟨_, rfl⟩
  have hX := (Box2.new w (.slice A n c) (.slice D m k) 35).keep (Below.alloc (Below.refl _ _) (Nat.le_refl _) (.cells #[.slice G b f, .int .i64 e.cls] 30))
  have hY := Box2.new (w.alloc (.cells #[.slice A n c, .slice D m k] 35)) (.slice G b f) (.int .i64 e.cls) 30
  have hz : (w.alloc (.cells #[.slice A n c, .slice D m k] 35)).heap.size = w.heap.size + 1 := by simp
  rw [hz] at hY
  clear hz
  rw [← hW] at hX hY
  have HL := hide (hl.keep hbox)
  have HR := hide (hr.keep hbox)
  have HG := hide (hg.keep hbox)
  have HSM := hide (hSM.out.keep hbox)
  have HEM := hide (hEM.out.keep hbox)
  have HT := hide (ht.keep hbox)
  rw [← hW] at HL HR HG hbox HSM HEM HT
  clear ht
  have hl1 := hide hl.1
  have hr1 := hide hr.1
  have hg1 := hide hg.1
  have HW := hide hW
  have hcl := bounds_i64 hwf
  clear hl hr hs hW hg hSM hEM
  obtain ⟨j0, j1, j2⟩ := id hX
  obtain ⟨i0, i1, i2⟩ := id hY
  cases hok : exB d e
  · have hfin := hide (exT_no hok)
    go_enter Tryd.func65, Tryd.ntmps65
    go_wp2_with (fail)
    rw [← HW.out]
    refine (implExOk_any _ _ _ _ d e _ HSM.out HEM.out).mono ?_
    rintro r w1 ⟨rfl, hb1⟩
    rw [hok]
    have hB := bthen hbox hb1
    clear hb1 hX hY j0 j1 j2 i0 i1 i2
    go_wp2
    go_ret
    exact ⟨by rw [hfin.out]; rfl, hB⟩
  have hfin := hide (exT_yes hok)
  obtain ⟨g1, g2, ⟨g3, g4⟩, -⟩ := exB_parts hok
  obtain ⟨⟨q1, q2⟩, ⟨q3, q4⟩, q5, -⟩ := schemaB_parts g1
  have hcz := clsT_size hok
  have HOK := hide hok
  have hbn : b = n := by have := hl1.out; have := hg1.out; omega
  subst hbn
  have hn5 : b ≤ 5 := by have := hl1.out; omega
  have hm3 : m ≤ 3 := by have := hr1.out; omega
  have hcm : e.cls < m := by have := hr1.out; omega
  have hJs := joinB_small (l := cellsT d e e.bins.length) (sep := ⟨#[44]⟩) (by rw [cellsT_len]; omega) (cellsT_size _ _ _) (by decide)
  rw [← hg1.out] at hfin hJs
  obtain ⟨J, hJ⟩ : ∃ J, J = joinB (cellsT d e b) ⟨#[44]⟩ := ⟨_, rfl⟩
  obtain ⟨Cl, hCl⟩ : ∃ J, J = clsT d e := ⟨_, rfl⟩
  obtain ⟨X, hXc⟩ : ∃ x, x = e.cls := ⟨_, rfl⟩
  rw [← hJ] at hfin hJs
  rw [← hCl] at hfin hcz
  have HJ := hide hJ
  have HCl := hide (show Cl = if 0 ≤ X then d.classes[X.toNat]?.getD ByteArray.empty else ⟨#[63]⟩ by rw [hCl, hXc]; rfl)
  rw [← hXc] at hcl g3 g4 hcm i1 hY HW
  have z1 : ¬ 9223372036854775807 < J.size + 1 := by omega
  have z2 : ¬ 9223372036854775807 < J.size + 1 + Cl.size := by omega
  have hXcc := hide hXc
  clear hok g1 g2 g4 q1 q2 q3 q4 q5 hJ hCl hXc i0 i1 i2 j0 j1 j2
  go_enter Tryd.func65, Tryd.ntmps65
  obtain ⟨j0, j1, j2⟩ := id hX
  obtain ⟨i0, i1, i2⟩ := id hY
  rw [← hXcc.out]
  go_wp2_with (fail)
  rw [← HW.out]
  refine (implExOk_any _ _ _ _ d e _ HSM.out (by rw [hXcc.out]; exact HEM.out)).mono ?_
  rintro r w1 ⟨rfl, hb1⟩
  rw [HOK.out]
  have hB := bthen hbox hb1
  clear j0 j1 j2 i0 i1 i2
  replace hX := hX.keep hb1
  replace hY := hY.keep hb1
  replace HL := hide (HL.out.keep hb1)
  replace HR := hide (HR.out.keep hb1)
  replace HG := hide (HG.out.keep hb1)
  replace HT := hide (HT.out.keep hb1)
  clear hb1 hbox HSM HEM
  have hown0 := own_empty w1 w1.heap.size 9 1 (Nat.le_refl _)
  obtain ⟨j0, j1, j2⟩ := id hX
  obtain ⟨i0, i1, i2⟩ := id hY
  have hX2 := hX.keep ((Below.refl _ w1).alloc (Nat.le_refl _) (.cells #[] 9))
  have hY2 := hY.keep ((Below.refl _ w1).alloc (Nat.le_refl _) (.cells #[] 9))
  obtain ⟨j3, j4, j5⟩ := id hX2
  obtain ⟨i3, i4, i5⟩ := id hY2
  go_wp2
  clear j0 j1 j2 i0 i1 i2 j3 j4 j5 i3 i4 i5 hX2 hY2
  go_loopw [5, 17] (fun v i wr => ∃ K : Nat, K ≤ b ∧ i = .int .i64 K ∧ (∃ G M, v = .slice G K M) ∧ wr.ownsRow w1.heap.size 9 1 v K ((cellsT d e K).map Value.string) ∧ Below w1.heap.size w1 wr) (fun _ i _ => b - (intOf i).toNat)
  case atStart => exact ⟨0, Nat.zero_le _, rfl, ⟨_, _, rfl⟩, by simpa [cellsT] using hown0, (Below.refl _ _).alloc (Nat.le_refl _) _⟩
  case round =>
    clear hown0
    obtain ⟨K, hk, rfl, ⟨T, M, rfl⟩, hown, hbel⟩ := hrel
    have hXr := hX.keep hbel
    have hYr := hY.keep hbel
    by_cases hlt : K < b
    · obtain ⟨ad, A1, n1, c1, A2, n2, c2, rfl, hbk, g0, g1, g2, hI⟩ := (HL.out.keep hbel).at_ hlt
      obtain ⟨au, rfl, hub, hcell⟩ := (HG.out.keep hbel).at_ hlt
      have hst := hide (cellsT_snoc d e K)
      obtain ⟨a, ha⟩ : ∃ a, a = d.attrs[K]?.getD default := ⟨_, rfl⟩
      obtain ⟨x, hx⟩ : ∃ x, x = e.bins[K]?.getD 0 := ⟨_, rfl⟩
      rw [← ha] at g0 hI hst
      rw [← hx] at hcell hst
      clear ha hx
      have HI := hide hI
      clear hI
      obtain ⟨j0, j1, j2⟩ := id hXr
      obtain ⟨i0, i1, i2⟩ := id hYr
      have hsz1 := hbel.size
      go_wp2_with (fail)
      refine (implCellText_any _ _ _ _ _ _ a x _ HI.out (HT.out.keep hbel)).mono ?_
      rintro r w2 ⟨rfl, hb⟩
      have hown2 := own_below hown hb
      have hbel2 := bthen hbel hb
      have hsz2 := hbel2.size
      clear hb g0 g1 g2 hbel hbk HI hXr hYr j0 j1 j2 i0 i1 i2 hown hcell hub
      go_wp2_with (at_builtin; go_must (refine wpList_append_one w2 rfl _ _ 23 rfl w1.heap.size 9 (.string ⟨#[]⟩) 1 16 Tryd.underlying23 infoS rfl (by decide) _ K _ [.string (cellT a x)] rfl hown2 _ rfl rfl (by simp [Value.oneCell']) rfl (by unfold maxLen; omega) (by omega) hsz2 ?_); intro v' w3 hown3 hb3 _ _)
      go_roundw
      case rel => exact ⟨K + 1, by omega, by go_num, own_shape hown3, by rw [hst.out]; exact hown3, hbel2.trans hb3⟩
      case measure => simp [intOf]; omega
    · obtain rfl : K = b := by omega
      have HT1 := hide (strs_of hown)
      have hcap := own_cap hown
      have HRr := hide (HR.out.keep hbel)
      have hB3 := bthen hB hbel
      clear hown
      obtain ⟨j0, j1, j2⟩ := id hXr
      obtain ⟨i0, i1, i2⟩ := id hYr
      by_cases hc0 : 0 ≤ X
      · obtain ⟨C0, rfl⟩ : ∃ C0 : Nat, X = C0 := ⟨X.toNat, by omega⟩
        obtain ⟨av, rfl, hvb, hcell⟩ := (HRr.out).at_ (k := C0) (by omega)
        have hcc := hide (show Cl = d.classes[C0]?.getD ByteArray.empty by rw [HCl.out, if_pos hc0]; rfl)
        rw [← hcc.out] at hcell
        have hC0 : C0 < m := by omega
        clear hcm g3
        go_wp2_with (fail)
        refine (join_any T K M (cellsT d e K) ⟨#[44]⟩ _ HT1.out (by omega) hcap (cellsT_size _ _ _) (by decide)).mono ?_
        rintro r w2 ⟨rfl, hb2⟩
        rw [← HJ.out]
        have hfin2 := hide (show joinB (cellsT d e K) ⟨#[44]⟩ = J from HJ.out.symm)
        have hBf := bthen hB3 hb2
        go_wp2
        go_ret
        exact ⟨by rw [hfin.out]; rfl, hBf⟩
      · have hcc := hide (show Cl = ⟨#[63]⟩ by rw [HCl.out, if_neg hc0])
        rw [hcc.out] at z2 hfin
        go_wp2_with (fail)
        refine (join_any T K M (cellsT d e K) ⟨#[44]⟩ _ HT1.out (by omega) hcap (cellsT_size _ _ _) (by decide)).mono ?_
        rintro r w2 ⟨rfl, hb2⟩
        rw [← HJ.out]
        have hBf := bthen hB3 hb2
        go_wp2
        go_ret
        exact ⟨by rw [hfin.out]; rfl, hBf⟩
end Go.Proofs.YtohodehmidbmlaaDoor
