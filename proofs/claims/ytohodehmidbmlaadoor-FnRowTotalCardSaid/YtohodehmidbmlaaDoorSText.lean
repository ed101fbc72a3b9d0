/-
  Contracts: the text of a schema; its law.
-/
import Derived.Test.YtohodehmidbmlaaDoorText2
import Derived.Test.YtohodehmidbmlaaDoorFracT
import Derived.Test.YtohodehmidbmlaaDoorSchemaOk2
namespace Go.Proofs.YtohodehmidbmlaaDoor
open Go.RowKit
set_option maxRecDepth 100000

theorem attrT_size {a : AttrD} (h : attrB a = true) : (attrT a).size ≤ 100 := by
  have hn := (attrB_name h).2
  rcases attrB_parts h with ⟨p1, p2, p3, p4⟩ | ⟨p1, p2, p3, p4, p5⟩
  · rw [attrT_vals h (by omega), ByteArray.size_append, ByteArray.size_append]
    have h1 := joinB_size (l := a.vals) (sep := comma) (M := 8) (fun s hs => (attrB_words h p1 s hs).2)
    have h2 : (8 + comma.size) * a.vals.length ≤ 9 * 4 := Nat.mul_le_mul (by decide) p3
    have h3 : (⟨#[61]⟩ : ByteArray).size = 1 := rfl
    omega
  · rw [attrT_cuts h (by omega), ByteArray.size_append, ByteArray.size_append]
    have h1 := joinB_size (l := a.cuts.map numB) (sep := comma) (M := 21) (fun s hs => by
      obtain ⟨x, hx, rfl⟩ := List.mem_map.1 hs
      obtain ⟨i, hi, rfl⟩ := List.mem_iff_getElem.1 hx
      have := p5 i hi
      rw [List.getElem?_eq_getElem hi, Option.getD_some] at this
      exact numB_sz _ (by omega) (by omega))
    have h2 : (21 + comma.size) * (a.cuts.map numB).length ≤ 22 * 3 := Nat.mul_le_mul (by decide) (by rw [List.length_map]; exact p3)
    have h3 : (⟨#[58]⟩ : ByteArray).size = 1 := rfl
    omega
theorem attrT_small (a : AttrD) : (attrT a).size ≤ 100 := by
  cases h : attrB a
  · rw [attrT_no h]; decide
  · exact attrT_size h
theorem schemaB_parts {d : SchemaD} (h : schemaB d = true) : (1 ≤ d.attrs.length ∧ d.attrs.length ≤ 5) ∧ (2 ≤ d.classes.length ∧ d.classes.length ≤ 3) ∧ (∀ s ∈ d.classes, 1 ≤ s.size ∧ s.size ≤ 8) ∧ ∀ a ∈ d.attrs, attrB a = true := by
  unfold schemaB at h
  simp only [Bool.and_eq_true] at h
  obtain ⟨h1, h2, h3, h4, h5⟩ := h
  have g1 := inB_iff.1 h1
  have g2 := inB_iff.1 h2
  exact ⟨by omega, by omega, wordsB_size h3, fun a ha => List.all_eq_true.1 h4 a ha⟩
abbrev semi : ByteArray := ⟨#[59]⟩
/-- The text of a schema. -/
def schemaT (d : SchemaD) : ByteArray := if schemaB d = true then joinB (d.attrs.map attrT) ⟨#[59]⟩ ++ ⟨#[124]⟩ ++ joinB d.classes ⟨#[44]⟩ else ⟨#[]⟩
theorem schemaT_no {d : SchemaD} (h : schemaB d = false) : schemaT d = ⟨#[]⟩ := by unfold schemaT; rw [if_neg]; rw [h]; simp
theorem schemaT_yes {d : SchemaD} (h : schemaB d = true) : schemaT d = joinB (d.attrs.map attrT) ⟨#[59]⟩ ++ ⟨#[124]⟩ ++ joinB d.classes ⟨#[44]⟩ := by unfold schemaT; rw [if_pos h]
theorem texts_snoc {l : List AttrD} {k : Nat} (hk : k < l.length) : ((l.take (k + 1)).map attrT).map Value.string = ((l.take k).map attrT).map Value.string ++ [.string (attrT (l[k]?.getD default))] := by
  rw [List.take_succ_eq_append_getElem hk, getD_of_lt hk, List.map_append, List.map_append]; rfl
theorem texts_size (l : List AttrD) : ∀ s ∈ l.map attrT, s.size ≤ 4096 := by
  intro s hs
  obtain ⟨a, _, rfl⟩ := List.mem_map.1 hs
  have := attrT_small a
  omega
theorem Held2.of {w : World} {b : Nat} {x y : Value} (h : Box2 w b x y) : Held2 w b x y w := ⟨h.c0, h.c1, h.lt, Below.refl _ _⟩

set_option maxHeartbeats 8000000 in
theorem implSchemaText_any (x0 x1 : Value) (d : SchemaD) (w : World) (h : SchemaM w x0 x1 d) (ht : TabW w) :
    Calls Tryd.prog 35 #[.agg #[x0, x1]] w fun e w' => e = .returned (.string (schemaT d)) ∧ Below w.heap.size w w' := by
  have hSM := hide h
  obtain ⟨A, n, c, D, m, k, rfl, rfl, hl, hn, hr, hs, hm, hmk⟩ := h
  have hbox : Below w.heap.size w (w.alloc (.cells #[.slice A n c, .slice D m k] 35)) := (Below.refl _ _).alloc (Nat.le_refl _) _
  have hX := Box2.new w (.slice A n c) (.slice D m k) 35
  have HL := hide (hl.keep hbox)
  have HR := hide (hr.keep hbox)
  have HM := hide (hSM.out.keep hbox)
  have HT := hide (ht.keep hbox)
  clear ht
  have hl1 := hide hl.1
  have hr1 := hide hr.1
  clear hl hr hs hSM
  cases hok : schemaB d
  · have hfin := hide (schemaT_no hok)
    go_enter Tryd.func35, Tryd.ntmps35
    go_wp2_with (fail)
    refine (implSchemaOk_any _ _ d _ HM.out).mono ?_
    rintro e w1 ⟨rfl, hb1⟩
    rw [hok]
    have hB := bthen hbox hb1
    clear hb1 hX
    go_wp2
    go_ret
    exact ⟨by rw [hfin.out]; rfl, hB⟩
  have hfin := hide (schemaT_yes hok)
  obtain ⟨⟨q1, q2⟩, ⟨q3, q4⟩, q5, -⟩ := schemaB_parts hok
  have HOK := hide hok
  have hn5 : n ≤ 5 := by have := hl1.out; omega
  have hm3 : m ≤ 3 := by have := hr1.out; omega
  have hcs := hide (show ∀ s ∈ d.classes, s.size ≤ 4096 from fun s hs => by have := q5 s hs; omega)
  have hJ1s := joinB_small (l := d.attrs.map attrT) (sep := ⟨#[59]⟩) (by rw [List.length_map]; omega) (texts_size _) (by decide)
  have hJ2s := joinB_small (l := d.classes) (sep := ⟨#[44]⟩) (by omega) hcs.out (by decide)
  obtain ⟨J1, hJ1⟩ : ∃ J, J = joinB (d.attrs.map attrT) ⟨#[59]⟩ := ⟨_, rfl⟩
  obtain ⟨J2, hJ2⟩ : ∃ J, J = joinB d.classes ⟨#[44]⟩ := ⟨_, rfl⟩
  rw [← hJ1] at hfin hJ1s
  rw [← hJ2] at hfin hJ2s
  have HJ1 := hide hJ1
  have HJ2 := hide hJ2
  have z1 : ¬ 9223372036854775807 < J1.size + 1 := by omega
  have z2 : ¬ 9223372036854775807 < J1.size + 1 + J2.size := by omega
  clear hok q1 q2 q3 q4 q5 hJ1 hJ2
  go_enter Tryd.func35, Tryd.ntmps35
  go_wp2_with (fail)
  refine (implSchemaOk_any _ _ d _ HM.out).mono ?_
  rintro e w1 ⟨rfl, hb1⟩
  rw [HOK.out]
  have hB := bthen hbox hb1
  replace hX := hX.keep hb1
  replace HL := hide (HL.out.keep hb1)
  replace HR := hide (HR.out.keep hb1)
  replace HT := hide (HT.out.keep hb1)
  clear hb1 hbox HM
  have hown0 := own_empty w1 w1.heap.size 9 1 (Nat.le_refl _)
  obtain ⟨k0, k1, k2⟩ := id hX
  have hX2 := hX.keep ((Below.refl _ w1).alloc (Nat.le_refl _) (.cells #[] 9))
  obtain ⟨j0, j1, j2⟩ := id hX2
  go_wp2
  clear k0 k1 k2 j0 j1 j2 hX2
  go_loopw [3, 13] (fun v i wr => ∃ K : Nat, K ≤ n ∧ i = .int .i64 K ∧ (∃ G M, v = .slice G K M) ∧ wr.ownsRow w1.heap.size 9 1 v K (((d.attrs.take K).map attrT).map Value.string) ∧ Below w1.heap.size w1 wr) (fun _ i _ => n - (intOf i).toNat)
  case atStart => exact ⟨0, Nat.zero_le _, rfl, ⟨_, _, rfl⟩, by simpa using hown0, (Below.refl _ _).alloc (Nat.le_refl _) _⟩
  case round =>
    clear hown0
    obtain ⟨K, hk, rfl, ⟨G, M, rfl⟩, hown, hbel⟩ := hrel
    have hXr := hX.keep hbel
    by_cases hlt : K < n
    · obtain ⟨ad, A1, n1, c1, A2, n2, c2, rfl, hbk, g0, g1, g2, hI⟩ := (HL.out.keep hbel).at_ hlt
      have hkl := hide (show K < d.attrs.length by have := hl1.out; omega)
      have hst := hide (texts_snoc hkl.out)
      obtain ⟨a, ha⟩ : ∃ a, a = d.attrs[K]?.getD default := ⟨_, rfl⟩
      rw [← ha] at g0 hI hst
      clear ha
      have hal : Below wr.heap.size wr (wr.alloc (.cells #[.string a.name, .slice A1 n1 c1, .slice A2 n2 c2] 64)) := (Below.refl _ _).alloc (Nat.le_refl _) _
      have HI := hide (hI.keep hal)
      have HTr := hide ((HT.out.keep hbel).keep hal)
      have hownA := hide (own_below hown hal)
      have hbelA := bthen hbel hal
      have hsz1 := hbel.size
      clear hI hown
      go_wp2_with (fail)
      refine (implAttrText_any _ _ _ _ _ _ a _ HI.out HTr.out).mono ?_
      rintro e w2 ⟨rfl, hb⟩
      have hown2 := own_below hownA.out hb
      have hbel2 := bthen hbelA hb
      have hsz2 := hbel2.size
      clear hb g0 g1 g2 hbel hbk HI hal hbelA hownA hXr HTr
      go_wp2_with (at_builtin; go_must (refine wpList_append_one w2 rfl _ _ 23 rfl w1.heap.size 9 (.string ⟨#[]⟩) 1 16 Tryd.underlying23 infoS rfl (by decide) _ K _ [.string (attrT a)] rfl hown2 _ rfl rfl (by simp [Value.oneCell']) rfl (by unfold maxLen; omega) (by omega) hsz2 ?_); intro v' w3 hown3 hb3 _ _)
      go_roundw
      case rel => exact ⟨K + 1, by omega, by go_num, own_shape hown3, by rw [hst.out]; exact hown3, hbel2.trans hb3⟩
      case measure => simp [intOf]; omega
    · obtain rfl : K = n := by omega
      rw [List.take_of_length_le (by have := hl1.out; omega)] at hown
      have HT1 := hide (strs_of hown)
      have hcap := own_cap hown
      have HRr := hide (HR.out.keep hbel)
      have hB3 := bthen hB hbel
      clear hown hbel
      obtain ⟨k0, k1, k2⟩ := id hXr
      go_wp2
      clear k0 k1 k2
      have HS : Held2 wr w.heap.size (.slice A K c) (.slice D m k) wr := Held2.of hXr
      unfold Held2 at HS
      have HA := hide (show ∀ W, Below wr.heap.size wr W → Calls Tryd.prog 102 #[.slice G K M, .string ⟨#[59]⟩] W fun e w' => e = .returned (.string J1) ∧ Below W.heap.size W w' from fun W hW => by
        rw [HJ1.out]
        exact join_any G K M (d.attrs.map attrT) ⟨#[59]⟩ W (HT1.out.keep hW) (by omega) hcap (texts_size _) (by decide))
      have HC := hide (show ∀ W, Below wr.heap.size wr W → Calls Tryd.prog 102 #[.slice D m k, .string ⟨#[44]⟩] W fun e w' => e = .returned (.string J2) ∧ Below W.heap.size W w' from fun W hW => by
        rw [HJ2.out]
        exact join_any D m k d.classes ⟨#[44]⟩ W (HRr.out.keep hW) (by omega) hmk hcs.out (by decide))
      go_region_held3 (fun W => W.cell? ⟨w.heap.size, 0, none⟩ = some (.slice A K c) ∧ W.cell? ⟨w.heap.size, 1, none⟩ = some (.slice D m k) ∧ w.heap.size < W.heap.size ∧ Below wr.heap.size wr W) (first | assumption | exact Held2.keep (by assumption) (by assumption) | exact Held2.drew (by assumption)) (first | (go_at_call 102; (with_reducible refine (HA.out _ (by assumption : _ ∧ _ ∧ _ ∧ Below wr.heap.size wr _).2.2.2).mono ?_); rintro e w2 ⟨rfl, hb2⟩) | (go_at_call 102; (with_reducible refine (HC.out _ (by assumption : _ ∧ _ ∧ _ ∧ Below wr.heap.size wr _).2.2.2).mono ?_); rintro e w2 ⟨rfl, hb2⟩))
      all_goals
        obtain ⟨-, -, -, hH⟩ := ‹_ ∧ _ ∧ _ ∧ Below wr.heap.size wr _›
        have hB2 := bthen hB3 hH
        clear hH
        go_wp2
        go_ret
        exact ⟨by rw [hfin.out]; rfl, hB2⟩

set_option maxHeartbeats 8000000 in
theorem specSchemaText_any (x0 x1 : Value) (d : SchemaD) (w : World) (h : SchemaM w x0 x1 d) :
    Calls Tryd.prog 61 #[.agg #[x0, x1]] w fun e w' => e = .returned (.string (schemaT d)) ∧ Below w.heap.size w w' := by
  have hSM := hide h
  obtain ⟨A, n, c, D, m, k, rfl, rfl, hl, hn, hr, hs, hm, hmk⟩ := h
  have hbox : Below w.heap.size w (w.alloc (.cells #[.slice A n c, .slice D m k] 35)) := (Below.refl _ _).alloc (Nat.le_refl _) _
  have hX := Box2.new w (.slice A n c) (.slice D m k) 35
  have HL := hide (hl.keep hbox)
  have HR := hide (hr.keep hbox)
  have HM := hide (hSM.out.keep hbox)
  have hl1 := hide hl.1
  have hr1 := hide hr.1
  clear hl hr hs hSM
  cases hok : schemaB d
  · have hfin := hide (schemaT_no hok)
    go_enter Tryd.func61, Tryd.ntmps61
    go_wp2_with (fail)
    refine (specSchemaOk_any _ _ d _ HM.out).mono ?_
    rintro e w1 ⟨rfl, hb1⟩
    rw [hok]
    have hB := bthen hbox hb1
    clear hb1 hX
    go_wp2
    go_ret
    exact ⟨by rw [hfin.out]; rfl, hB⟩
  have hfin := hide (schemaT_yes hok)
  obtain ⟨⟨q1, q2⟩, ⟨q3, q4⟩, q5, -⟩ := schemaB_parts hok
  have HOK := hide hok
  have hn5 : n ≤ 5 := by have := hl1.out; omega
  have hm3 : m ≤ 3 := by have := hr1.out; omega
  have hcs := hide (show ∀ s ∈ d.classes, s.size ≤ 4096 from fun s hs => by have := q5 s hs; omega)
  have hJ1s := joinB_small (l := d.attrs.map attrT) (sep := ⟨#[59]⟩) (by rw [List.length_map]; omega) (texts_size _) (by decide)
  have hJ2s := joinB_small (l := d.classes) (sep := ⟨#[44]⟩) (by omega) hcs.out (by decide)
  obtain ⟨J1, hJ1⟩ : ∃ J, J = joinB (d.attrs.map attrT) ⟨#[59]⟩ := ⟨_, rfl⟩
  obtain ⟨J2, hJ2⟩ : ∃ J, J = joinB d.classes ⟨#[44]⟩ := ⟨_, rfl⟩
  rw [← hJ1] at hfin hJ1s
  rw [← hJ2] at hfin hJ2s
  have HJ1 := hide hJ1
  have HJ2 := hide hJ2
  have z1 : ¬ 9223372036854775807 < J1.size + 1 := by omega
  have z2 : ¬ 9223372036854775807 < J1.size + 1 + J2.size := by omega
  clear hok q1 q2 q3 q4 q5 hJ1 hJ2
  go_enter Tryd.func61, Tryd.ntmps61
  go_wp2_with (fail)
  refine (specSchemaOk_any _ _ d _ HM.out).mono ?_
  rintro e w1 ⟨rfl, hb1⟩
  rw [HOK.out]
  have hB := bthen hbox hb1
  replace hX := hX.keep hb1
  replace HL := hide (HL.out.keep hb1)
  replace HR := hide (HR.out.keep hb1)
  clear hb1 hbox HM
  have hown0 := own_empty w1 w1.heap.size 9 1 (Nat.le_refl _)
  obtain ⟨k0, k1, k2⟩ := id hX
  go_wp2
  clear k0 k1 k2
  go_loopw [3, 4] (fun v i wr => ∃ K : Nat, K ≤ n ∧ i = .int .i64 K ∧ (∃ G M, v = .slice G K M) ∧ wr.ownsRow w1.heap.size 9 1 v K (((d.attrs.take K).map attrT).map Value.string) ∧ Below w1.heap.size w1 wr) (fun _ i _ => n - (intOf i).toNat)
  case atStart => exact ⟨0, Nat.zero_le _, rfl, ⟨_, _, rfl⟩, by simpa using hown0, (Below.refl _ _).alloc (Nat.le_refl _) _⟩
  case round =>
    clear hown0
    obtain ⟨K, hk, rfl, ⟨G, M, rfl⟩, hown, hbel⟩ := hrel
    have hXr := hX.keep hbel
    by_cases hlt : K < n
    · obtain ⟨ad, A1, n1, c1, A2, n2, c2, rfl, hbk, g0, g1, g2, hI⟩ := (HL.out.keep hbel).at_ hlt
      have hkl := hide (show K < d.attrs.length by have := hl1.out; omega)
      have hst := hide (texts_snoc hkl.out)
      obtain ⟨a, ha⟩ : ∃ a, a = d.attrs[K]?.getD default := ⟨_, rfl⟩
      rw [← ha] at g0 hI hst
      clear ha
      have hal : Below wr.heap.size wr wr := Below.refl _ _
      have HI := hide hI
      have hownA := hide (own_below hown hal)
      have hbelA := bthen hbel hal
      have hsz1 := hbel.size
      clear hI hown
      obtain ⟨k0, k1, k2⟩ := id hXr
      go_wp2_with (fail)
      refine (specAttrText_any _ _ _ _ _ _ a _ HI.out).mono ?_
      rintro e w2 ⟨rfl, hb⟩
      have hown2 := own_below hownA.out hb
      have hbel2 := bthen hbelA hb
      have hsz2 := hbel2.size
      clear hb g0 g1 g2 hbel hbk HI hal hbelA hownA hXr k0 k1 k2
      go_wp2_with (at_builtin; go_must (refine wpList_append_one w2 rfl _ _ 23 rfl w1.heap.size 9 (.string ⟨#[]⟩) 1 16 Tryd.underlying23 infoS rfl (by decide) _ K _ [.string (attrT a)] rfl hown2 _ rfl rfl (by simp [Value.oneCell']) rfl (by unfold maxLen; omega) (by omega) hsz2 ?_); intro v' w3 hown3 hb3 _ _)
      go_roundw
      case rel => exact ⟨K + 1, by omega, by go_num, own_shape hown3, by rw [hst.out]; exact hown3, hbel2.trans hb3⟩
      case measure => simp [intOf]; omega
    · obtain rfl : K = n := by omega
      rw [List.take_of_length_le (by have := hl1.out; omega)] at hown
      have HT1 := hide (strs_of hown)
      have hcap := own_cap hown
      have HRr := hide (HR.out.keep hbel)
      have hB3 := bthen hB hbel
      clear hown hbel
      obtain ⟨k0, k1, k2⟩ := id hXr
      go_wp2
      clear k0 k1 k2
      have HS : Held2 wr w.heap.size (.slice A K c) (.slice D m k) wr := Held2.of hXr
      unfold Held2 at HS
      have HA := hide (show ∀ W, Below wr.heap.size wr W → Calls Tryd.prog 118 #[.slice G K M, .string ⟨#[59]⟩] W fun e w' => e = .returned (.string J1) ∧ W = w' from fun W hW => by
        rw [HJ1.out]
        exact l5Join_any G K M (d.attrs.map attrT) ⟨#[59]⟩ W (HT1.out.keep hW) (by omega) (texts_size _) (by decide))
      have HC := hide (show ∀ W, Below wr.heap.size wr W → Calls Tryd.prog 118 #[.slice D m k, .string ⟨#[44]⟩] W fun e w' => e = .returned (.string J2) ∧ W = w' from fun W hW => by
        rw [HJ2.out]
        exact l5Join_any D m k d.classes ⟨#[44]⟩ W (HRr.out.keep hW) (by omega) hcs.out (by decide))
      go_region_held3 (fun W => W.cell? ⟨w.heap.size, 0, none⟩ = some (.slice A K c) ∧ W.cell? ⟨w.heap.size, 1, none⟩ = some (.slice D m k) ∧ w.heap.size < W.heap.size ∧ Below wr.heap.size wr W) (first | assumption | exact Held2.keep (by assumption) (by assumption) | exact Held2.drew (by assumption)) (first | (go_at_call 118; (with_reducible refine (HA.out _ (by assumption : _ ∧ _ ∧ _ ∧ Below wr.heap.size wr _).2.2.2).mono ?_); rintro e w2 ⟨rfl, rfl⟩) | (go_at_call 118; (with_reducible refine (HC.out _ (by assumption : _ ∧ _ ∧ _ ∧ Below wr.heap.size wr _).2.2.2).mono ?_); rintro e w2 ⟨rfl, rfl⟩))
      all_goals
        obtain ⟨-, -, -, hH⟩ := ‹_ ∧ _ ∧ _ ∧ Below wr.heap.size wr _›
        have hB2 := bthen hB3 hH
        clear hH
        go_wp2
        go_ret
        exact ⟨by rw [hfin.out]; rfl, hB2⟩
end Go.Proofs.YtohodehmidbmlaaDoor
