/-
  Contracts: the text of an attribute, the reference's side; its law.
-/
import Derived.Test.YtohodehmidbmlaaDoorText
namespace Go.Proofs.YtohodehmidbmlaaDoor
open Go.RowKit
set_option maxRecDepth 100000

set_option maxHeartbeats 4000000 in
theorem specAttrText_any (A1 : Option Addr) (n1 c1 : Nat) (A2 : Option Addr) (n2 c2 : Nat) (a : AttrD) (w : World) (h : AttrM w A1 n1 c1 A2 n2 c2 a) :
    Calls Tryd.prog 50 #[.agg #[.string a.name, .slice A1 n1 c1, .slice A2 n2 c2]] w fun e w' => e = .returned (.string (attrT a)) ∧ Below w.heap.size w w' := by
  have hl1 := hide h.cuts.1
  have hl2 := hide h.vals.1
  have hcc := h.cc
  have hbox : Below w.heap.size w (w.alloc (.cells #[.string a.name, .slice A1 n1 c1, .slice A2 n2 c2] 64)) := (Below.refl _ _).alloc (Nat.le_refl _) _
  have hX := Box3.new w (.string a.name) (.slice A1 n1 c1) (.slice A2 n2 c2) 64
  have HV := hide (h.keep hbox)
  clear h
  cases hok : attrB a
  · have hfin := hide (attrT_no hok)
    go_enter Tryd.func50, Tryd.ntmps50
    go_wp2_with (fail)
    refine (specAttrOk_any A1 n1 c1 A2 n2 c2 a _ HV.out).mono ?_
    rintro e w1 ⟨rfl, hb1⟩
    rw [hok]
    have hB := bthen hbox hb1
    clear hb1 hX
    go_wp2
    go_ret
    exact ⟨by rw [hfin.out]; rfl, hB⟩
  have HOK := hide hok
  have HP := hide (attrB_parts hok)
  have hnm := (attrB_name hok).2
  clear hok
  go_enter Tryd.func50, Tryd.ntmps50
  go_wp2_with (fail)
  refine (specAttrOk_any A1 n1 c1 A2 n2 c2 a _ HV.out).mono ?_
  rintro e w1 ⟨rfl, hb1⟩
  rw [HOK.out]
  have hB := bthen hbox hb1
  replace hX := hX.keep hb1
  replace HV := hide (HV.out.keep hb1)
  clear hb1 hbox
  have z1 : ¬ 9223372036854775807 < a.name.size + 1 := by omega
  rcases HP.out with ⟨p1, p2, p3, p4⟩ | ⟨p1, p2, p3, p4, p5⟩
  · have hn2v := hl2.out
    obtain rfl : n1 = 0 := by rw [hl1.out, p1]
    have hn2p : 0 < n2 := by omega
    have hfin := hide (attrT_vals HOK.out (by omega))
    have hws := hide (show ∀ s ∈ a.vals, s.size ≤ 4096 from fun s hs => by have := attrB_words HOK.out p1 s hs; omega)
    have hJs := joinB_small (sep := comma) (by omega) hws.out (by decide)
    obtain ⟨J, hJ⟩ : ∃ J, J = joinB a.vals comma := ⟨_, rfl⟩
    rw [← hJ] at hfin hJs
    have HJ := hide hJ
    have z2 : ¬ 9223372036854775807 < a.name.size + 1 + J.size := by omega
    have hn24 : n2 ≤ 100 := by omega
    clear hJ p1 p2 p3 p4 hn2v
    obtain ⟨k0, k1, k2, k3⟩ := id hX
    go_wp2
    clear k0 k1 k2 k3
    have HS := Held3.of hX
    unfold Held3 at HS
    go_region_held3 (fun W => W.cell? ⟨w.heap.size, 0, none⟩ = some (.string a.name) ∧ W.cell? ⟨w.heap.size, 1, none⟩ = some (.slice A1 0 c1) ∧ W.cell? ⟨w.heap.size, 2, none⟩ = some (.slice A2 n2 c2) ∧ w.heap.size < W.heap.size ∧ Below w1.heap.size w1 W) (first | assumption | exact Held3.keep (by assumption) (by assumption) | exact Held3.drew (by assumption)) ((go_at_call 118; refine (l5Join_any A2 n2 c2 a.vals comma _ (HV.out.vals.keep (Held3.below (by assumption))) hn24 hws.out (by decide)).mono ?_; rintro e w2 ⟨rfl, rfl⟩; rw [← HJ.out]))
    all_goals
      obtain ⟨-, -, -, -, hH⟩ := ‹_ ∧ _ ∧ _ ∧ _ ∧ Below w1.heap.size w1 _›
      have hB2 := bthen hB hH
      clear hH
      go_wp2
      go_ret
      exact ⟨by rw [hfin.out]; rfl, hB2⟩
  · have hn1v := hl1.out
    have hn1p : 0 < n1 := by omega
    have hn2v := hl2.out
    obtain rfl : n2 = 0 := by omega
    have hfin := hide (attrT_cuts HOK.out (by omega))
    have hbd := hide (show ∀ x ∈ a.cuts, -999999 ≤ x ∧ x ≤ 999999 from fun x hx => by
      obtain ⟨i, hi, rfl⟩ := List.mem_iff_getElem.1 hx
      have := p5 i hi
      rw [List.getElem?_eq_getElem hi, Option.getD_some] at this
      omega)
    have hJs := joinB_small (l := a.cuts.map numB) (sep := comma) (by rw [List.length_map]; omega) (nums_size hbd.out) (by decide)
    obtain ⟨J, hJ⟩ : ∃ J, J = joinB (a.cuts.map numB) comma := ⟨_, rfl⟩
    rw [← hJ] at hfin hJs
    have HJ := hide hJ
    have z2 : ¬ 9223372036854775807 < a.name.size + 1 + J.size := by omega
    have hn13 : n1 ≤ 100 := by omega
    have hn1v' := hide hn1v
    clear hJ p1 p2 p3 p4 p5 hn1v hn2v
    have hown0 := own_empty w1 w1.heap.size 9 1 (Nat.le_refl _)
    obtain ⟨k0, k1, k2, k3⟩ := id hX
    go_wp2
    clear k0 k1 k2 k3
    go_loopw [3, 4] (fun v i wr => ∃ k : Nat, k ≤ n1 ∧ i = .int .i64 k ∧ (∃ D m, v = .slice D k m) ∧ wr.ownsRow w1.heap.size 9 1 v k (((a.cuts.take k).map numB).map Value.string) ∧ Below w1.heap.size w1 wr) (fun _ i _ => n1 - (intOf i).toNat)
    case atStart => exact ⟨0, Nat.zero_le _, rfl, ⟨_, _, rfl⟩, by simpa using hown0, (Below.refl _ _).alloc (Nat.le_refl _) _⟩
    case round =>
      clear hown0
      obtain ⟨k, hk, rfl, ⟨D, m, rfl⟩, hown, hbel⟩ := hrel
      have hsz := hbel.size
      have hXr := hX.keep hbel
      obtain ⟨k0, k1, k2, k3⟩ := id hXr
      by_cases hlt : k < n1
      · obtain ⟨ad, rfl, hadb, hcell⟩ := (HV.out.cuts).at_ hlt
        have hkl := hide (show k < a.cuts.length by have := hn1v'.out; omega)
        have hst := hide (nums_snoc hkl.out)
        obtain ⟨x, hx⟩ : ∃ x, x = a.cuts[k]?.getD 0 := ⟨_, rfl⟩
        have hxb : -999999 ≤ x ∧ x ≤ 999999 := by
          rw [hx, List.getElem?_eq_getElem hkl.out]
          exact hbd.out _ (List.getElem_mem hkl.out)
        obtain ⟨x0, x1⟩ := hxb
        rw [← hx] at hcell hst
        have hc1 := (hbel.cell (p := ad.add k) (by rw [block_of_add]; exact hadb)).trans hcell
        clear hx hcell
        go_wp2_with (fail)
        refine (specDigits_any x (by omega) (by omega) _).mono ?_
        rintro e w2 ⟨rfl, hb1⟩
        have hown1 := own_below hown hb1
        have hbel1 := bthen hbel hb1
        have hsz1 := hbel1.size
        clear hown hb1 hbel hc1 k0 k1 k2 k3 hXr
        go_wp2_with (at_builtin; go_must (refine wpList_append_one w2 rfl _ _ 23 rfl w1.heap.size 9 (.string ⟨#[]⟩) 1 16 Tryd.underlying23 infoS rfl (by decide) _ k _ [.string (numB x)] rfl hown1 _ rfl rfl (by simp [Value.oneCell']) rfl (by unfold maxLen; omega) (by omega) hsz1 ?_); intro v' w3 hown2 hb2 _ _)
        go_roundw
        case rel => exact ⟨k + 1, by omega, by go_num, own_shape hown2, by rw [hst.out]; exact hown2, hbel1.trans hb2⟩
        case measure => simp [intOf]; omega
      · obtain rfl : k = n1 := by omega
        rw [List.take_of_length_le (by have := hn1v'.out; omega)] at hown
        have HJ2 := hide (strs_of hown)
        clear hown
        have hB3 := bthen hB hbel
        go_wp2
        clear k0 k1 k2 k3
        have HS : Held3 wr w.heap.size (.string a.name) (.slice A1 k c1) (.slice A2 0 c2) wr := Held3.of hXr
        unfold Held3 at HS
        go_region_held3 (fun W => W.cell? ⟨w.heap.size, 0, none⟩ = some (.string a.name) ∧ W.cell? ⟨w.heap.size, 1, none⟩ = some (.slice A1 k c1) ∧ W.cell? ⟨w.heap.size, 2, none⟩ = some (.slice A2 0 c2) ∧ w.heap.size < W.heap.size ∧ Below wr.heap.size wr W) (first | assumption | exact Held3.keep (by assumption) (by assumption) | exact Held3.drew (by assumption)) ((go_at_call 118; refine (l5Join_any _ _ _ (a.cuts.map numB) comma _ (HJ2.out.keep (Held3.below (by assumption))) hn13 (nums_size hbd.out) (by decide)).mono ?_; rintro e w2 ⟨rfl, rfl⟩; rw [← HJ.out]))
        all_goals
          obtain ⟨-, -, -, -, hH⟩ := ‹_ ∧ _ ∧ _ ∧ _ ∧ Below wr.heap.size wr _›
          have hB2 := bthen hB3 hH
          clear hH
          go_wp2
          go_ret
          exact ⟨by rw [hfin.out]; rfl, hB2⟩

set_option maxRecDepth 100000 in
set_option maxHeartbeats 4000000 in
theorem fnExactAttrText_walk (w : World) (A1 : Option Addr) (n1 c1 : Nat) (A2 : Option Addr) (n2 c2 : Nat) (a : AttrD) (h : AttrI w A1 n1 c1 A2 n2 c2 a) (ht : TabW w) :
    Calls Tryd.prog 10 #[.agg #[.string a.name, .slice A1 n1 c1, .slice A2 n2 c2]] w fun e w' => e = .returned (.bool true) ∧ Below w.heap.size w w' := by
  have hbox : Below w.heap.size w (w.alloc (.cells #[.string a.name, .slice A1 n1 c1, .slice A2 n2 c2] 61)) := (Below.refl _ _).alloc (Nat.le_refl _) _
  have HI := hide h
  have hX := Box3.new w (.string a.name) (.slice A1 n1 c1) (.slice A2 n2 c2) 61
  have HT := hide ht
  clear ht
  clear h
  go_enter Tryd.func10, Tryd.ntmps10
  go_wp2_with (fail)
  refine (szAttr_any A1 n1 c1 A2 n2 c2 a _ _ (HI.out.keep hbox) (by omega) (by omega)).mono ?_
  rintro e w1 ⟨r, rfl, hr, hb1⟩
  have hB1 := bthen hbox hb1
  have hX1 := hX.keep hb1
  clear hX hb1
  rcases hr with rfl | ⟨hr0, hr1⟩
  · go_wp2
    go_ret
    exact ⟨rfl, hB1⟩
  · have HM := hide (HI.out.small (by omega))
    clear hr1
    obtain ⟨k0, k1, k2, -⟩ := id hX1
    go_wp2_with (fail)
    refine (toAttr_any A1 n1 c1 A2 n2 c2 a _ (HM.out.keep hB1)).mono ?_
    rintro e w2 ⟨E1, f1, E2, f2, rfl, hm2, -, -, hb2⟩
    have hB2 := bthen hB1 hb2
    have hX2 := hX1.keep hb2
    clear hX1 k0 k1 k2 hb2
    have HM2 := hide hm2
    clear hm2
    go_wp2_with (fail)
    refine (specAttrText_any _ _ _ _ _ _ a _ HM2.out).mono ?_
    rintro e w3 ⟨rfl, hb3⟩
    have hB3 := bthen hB2 hb3
    have hX3 := hX2.keep hb3
    clear hX2 hb3 HM2
    obtain ⟨k0, k1, k2, -⟩ := id hX3
    go_wp2_with (fail)
    refine (toAttr_any A1 n1 c1 A2 n2 c2 a _ (HM.out.keep hB3)).mono ?_
    rintro e w4 ⟨D1, m1, D2, m2, rfl, hm4, -, -, hb4⟩
    have hB4 := bthen hB3 hb4
    have hX4 := hX3.keep hb4
    clear hX3 k0 k1 k2 hb4
    have hal : Below w4.heap.size w4 (w4.alloc (.cells #[.string a.name, .slice D1 n1 m1, .slice D2 n2 m2] 64)) := (Below.refl _ _).alloc (Nat.le_refl _) _
    have hB4' := bthen hB4 hal
    have hX4' := hX4.keep hal
    have hY4' := Box3.new w4 (.string a.name) (.slice D1 n1 m1) (.slice D2 n2 m2) 64
    have HM4 := hide (hm4.keep hal)
    clear hm4 hal hX4
    go_wp2_with (fail)
    refine (implAttrText_any _ _ _ _ _ _ a _ HM4.out (HT.out.keep hB4')).mono ?_
    rintro e w5 ⟨rfl, hb5⟩
    have hB5 := bthen hB4' hb5
    have hX5 := hX4'.keep hb5
    have hY5 := hY4'.keep hb5
    have HM5 := hide (HM4.out.keep hb5)
    have HS := Held33.of hX5 hY5 (Below.refl _ w5)
    clear hX4' hY4' hb5 HM4 hX5 hY5
    have hne : ((attrT a).toList == (attrT a).toList) = true := by simp
    go_wp2
    unfold Held33 at HS
    go_region_held3 (fun W => W.cell? ⟨w.heap.size, 0, none⟩ = some (.string a.name) ∧ W.cell? ⟨w.heap.size, 1, none⟩ = some (.slice A1 n1 c1) ∧ W.cell? ⟨w.heap.size, 2, none⟩ = some (.slice A2 n2 c2) ∧ W.cell? ⟨w4.heap.size, 0, none⟩ = some (.string a.name) ∧ W.cell? ⟨w4.heap.size, 1, none⟩ = some (.slice D1 n1 m1) ∧ W.cell? ⟨w4.heap.size, 2, none⟩ = some (.slice D2 n2 m2) ∧ w.heap.size < W.heap.size ∧ w4.heap.size < W.heap.size ∧ Below w5.heap.size w5 W) (first | assumption | exact Held33.keep (by assumption) (by assumption) | exact Held33.drew (by assumption)) (first | (go_at_call 45; refine (toAttr_any A1 n1 c1 A2 n2 c2 a _ (HM.out.keep (bthen hB5 (Held33.below (by assumption))))).mono ?_; rintro e w6 ⟨G1, g1, G2, g2, rfl, hm6, -, -, hb6⟩) | (go_at_call 47; refine (eqAttr_any _ _ _ _ _ _ _ _ _ _ _ _ a _ (HM5.out.keep (Held33.below (by assumption))) (by assumption)).mono ?_; rintro e w7 ⟨rfl, hb7⟩))
    have hbw := (‹_ ∧ _ ∧ _ ∧ _ ∧ _ ∧ _ ∧ _ ∧ _ ∧ Below w5.heap.size w5 w7› : _ ∧ _ ∧ _ ∧ _ ∧ _ ∧ _ ∧ _ ∧ _ ∧ Below w5.heap.size w5 w7).2.2.2.2.2.2.2.2
    go_wp2
    go_ret
    exact ⟨rfl, bthen hB5 hbw⟩
end Go.Proofs.YtohodehmidbmlaaDoor
