/-
  Contracts: the text of an attribute.
-/
import Derived.Test.YtohodehmidbmlaaDoorJoin
import Derived.Test.YtohodehmidbmlaaDoorCell
namespace Go.Proofs.YtohodehmidbmlaaDoor
open Go.RowKit
set_option maxRecDepth 100000

theorem wordB_size {s : ByteArray} (h : wordB s = true) : 1 ≤ s.size ∧ s.size ≤ 8 := by
  unfold wordB at h
  simp only [Bool.and_eq_true] at h
  have h1 := h.1
  rw [inB_iff] at h1
  omega
theorem wordsB_size {l : List ByteArray} (h : wordsB l = true) : ∀ s ∈ l, 1 ≤ s.size ∧ s.size ≤ 8 := by
  unfold wordsB at h
  simp only [Bool.and_eq_true] at h
  intro s hs
  exact wordB_size (List.all_eq_true.1 h.1 s hs)
theorem attrB_words {a : AttrD} (h : attrB a = true) (hc : a.cuts.length = 0) : ∀ s ∈ a.vals, 1 ≤ s.size ∧ s.size ≤ 8 := by
  have hw : wordB a.name = true := by
    unfold attrB at h
    simp only [Bool.and_eq_true] at h
    exact h.1
  have h1 := attrB_few hw hc
  rw [h] at h1
  have := h1.symm
  simp only [Bool.and_eq_true] at this
  exact wordsB_size this.2
theorem attrB_name {a : AttrD} (h : attrB a = true) : 1 ≤ a.name.size ∧ a.name.size ≤ 8 := by
  unfold attrB at h
  simp only [Bool.and_eq_true] at h
  exact wordB_size h.1
def comma : ByteArray := ⟨#[44]⟩
/-- The text of an attribute. -/
def attrT (a : AttrD) : ByteArray :=
  if attrB a = true then (if 0 < a.cuts.length then a.name ++ ⟨#[58]⟩ ++ joinB (a.cuts.map numB) comma else a.name ++ ⟨#[61]⟩ ++ joinB a.vals comma) else ⟨#[]⟩
theorem attrT_no {a : AttrD} (h : attrB a = false) : attrT a = ⟨#[]⟩ := by unfold attrT; rw [if_neg]; rw [h]; simp
theorem attrT_cuts {a : AttrD} (h : attrB a = true) (hc : 0 < a.cuts.length) : attrT a = a.name ++ ⟨#[58]⟩ ++ joinB (a.cuts.map numB) comma := by unfold attrT; rw [if_pos h, if_pos hc]
theorem attrT_vals {a : AttrD} (h : attrB a = true) (hc : ¬ 0 < a.cuts.length) : attrT a = a.name ++ ⟨#[61]⟩ ++ joinB a.vals comma := by unfold attrT; rw [if_pos h, if_neg hc]
theorem numB_sz (n : Int) (h0 : -9223372036854775808 ≤ n) (h1 : n ≤ 9223372036854775807) : (numB n).size ≤ 21 := by
  show (Lib.itoa n).toArray.size ≤ 21
  rw [List.size_toArray]
  exact Lib.itoa_length_le n h0 h1
theorem nums_size {l : List Int} (h : ∀ x ∈ l, -999999 ≤ x ∧ x ≤ 999999) : ∀ s ∈ l.map numB, s.size ≤ 4096 := by
  intro s hs
  obtain ⟨x, hx, rfl⟩ := List.mem_map.1 hs
  have := h x hx
  have := numB_sz x (by omega) (by omega)
  omega
theorem nums_snoc {l : List Int} {k : Nat} (hk : k < l.length) : ((l.take (k + 1)).map numB).map Value.string = ((l.take k).map numB).map Value.string ++ [.string (numB (l[k]?.getD 0))] := by
  rw [take_snoc_getD l k hk]; simp

/-- What a region holds of one box of three. -/
def Held3 (w : World) (b : Nat) (x y z : Value) (W : World) : Prop := W.cell? ⟨b, 0, none⟩ = some x ∧ W.cell? ⟨b, 1, none⟩ = some y ∧ W.cell? ⟨b, 2, none⟩ = some z ∧ b < W.heap.size ∧ Below w.heap.size w W
theorem Held3.keep {w W W1 : World} {b : Nat} {x y z : Value} (hb : Below W.heap.size W W1) (h : Held3 w b x y z W) : Held3 w b x y z W1 := by
  obtain ⟨h0, h1, h2, h3, h4⟩ := h
  exact ⟨(hb.cell (p := ⟨b, 0, none⟩) h3).trans h0, (hb.cell (p := ⟨b, 1, none⟩) h3).trans h1, (hb.cell (p := ⟨b, 2, none⟩) h3).trans h2, Nat.lt_of_lt_of_le h3 hb.size, bthen h4 hb⟩
theorem Held3.drew {w W : World} {b : Nat} {x y z : Value} (h : Held3 w b x y z W) : Held3 w b x y z W.drew := Held3.keep (Below.refl _ _).drew h
theorem Held3.below {w W : World} {b : Nat} {x y z : Value} (h : Held3 w b x y z W) : Below w.heap.size w W := h.2.2.2.2
theorem Held3.of {w : World} {b : Nat} {x y z : Value} (h : Box3 w b x y z) : Held3 w b x y z w := ⟨h.c0, h.c1, h.c2, h.lt, Below.refl _ _⟩

set_option maxHeartbeats 1000000 in
theorem numbersText_any (A : Option Addr) (n c : Nat) (l : List Int) (w : World) (hl : Ints w A n l) (hn : n ≤ 100) (hs : ∀ x ∈ l, -999999 ≤ x ∧ x ≤ 999999) (ht : TabW w) :
    Calls Tryd.prog 119 #[.slice A n c, .string comma] w fun e w' => e = .returned (.string (joinB (l.map numB) comma)) ∧ Below w.heap.size w w' := by
  have HL := hide hl
  have hlen := hide hl.1
  have HS := hide hs
  have HT := hide ht
  have hown0 := own_empty w w.heap.size 9 1 (Nat.le_refl _)
  clear hl hs ht
  go_enter Tryd.func119, Tryd.ntmps119
  go_wp2
  go_loopw [5, 11] (fun v i wr => ∃ k : Nat, k ≤ n ∧ i = .int .i64 k ∧ (∃ D m, v = .slice D k m) ∧ wr.ownsRow w.heap.size 9 1 v k (((l.take k).map numB).map Value.string) ∧ Below w.heap.size w wr) (fun _ i _ => n - (intOf i).toNat)
  case atStart => exact ⟨0, Nat.zero_le _, rfl, ⟨_, _, rfl⟩, by simpa using hown0, (Below.refl _ _).alloc (Nat.le_refl _) _⟩
  case round =>
    clear hown0
    obtain ⟨k, hk, rfl, ⟨D, m, rfl⟩, hown, hbel⟩ := hrel
    have hsz := hbel.size
    by_cases hlt : k < n
    · obtain ⟨ad, rfl, hadb, hcell⟩ := (HL.out).at_ hlt
      have hkl := hide (show k < l.length by have := hlen.out; omega)
      have hst := hide (nums_snoc hkl.out)
      obtain ⟨x, hx⟩ : ∃ x, x = l[k]?.getD 0 := ⟨_, rfl⟩
      have hxb : -999999 ≤ x ∧ x ≤ 999999 := by
        rw [hx, List.getElem?_eq_getElem hkl.out]
        exact HS.out _ (List.getElem_mem hkl.out)
      obtain ⟨x0, x1⟩ := hxb
      rw [← hx] at hcell hst
      have hc1 := (hbel.cell (p := ad.add k) (by rw [block_of_add]; exact hadb)).trans hcell
      clear hx hcell
      go_wp2_with (fail)
      refine (implDigits_any x (by omega) (by omega) _ (HT.out.keep hbel)).mono ?_
      rintro e w1 ⟨rfl, hb1⟩
      have hown1 := own_below hown hb1
      have hbel1 := bthen hbel hb1
      have hsz1 := hbel1.size
      clear hown hb1 hbel hc1
      go_wp2_with (at_builtin; go_must (refine wpList_append_one w1 rfl _ _ 23 rfl w.heap.size 9 (.string ⟨#[]⟩) 1 16 Tryd.underlying23 infoS rfl (by decide) _ k _ [.string (numB x)] rfl hown1 _ rfl rfl (by simp [Value.oneCell']) rfl (by unfold maxLen; omega) (by omega) hsz1 ?_); intro v' w2 hown2 hb2 _ _)
      go_roundw
      case rel => exact ⟨k + 1, by omega, by go_num, own_shape hown2, by rw [hst.out]; exact hown2, hbel1.trans hb2⟩
      case measure => simp [intOf]; omega
    · obtain rfl : k = n := by omega
      rw [List.take_of_length_le (by have := hlen.out; omega)] at hown
      have HJ := hide (strs_of hown)
      have hcap := own_cap hown
      clear hown
      go_wp2_with (fail)
      refine (join_any _ _ _ (l.map numB) comma _ HJ.out hn hcap (nums_size HS.out) (by decide)).mono ?_
      rintro e w1 ⟨rfl, hb1⟩
      go_wp2
      go_ret
      exact ⟨rfl, bthen hbel hb1⟩

set_option maxHeartbeats 4000000 in
theorem implAttrText_any (A1 : Option Addr) (n1 c1 : Nat) (A2 : Option Addr) (n2 c2 : Nat) (a : AttrD) (w : World) (h : AttrM w A1 n1 c1 A2 n2 c2 a) (ht : TabW w) :
    Calls Tryd.prog 51 #[.agg #[.string a.name, .slice A1 n1 c1, .slice A2 n2 c2]] w fun e w' => e = .returned (.string (attrT a)) ∧ Below w.heap.size w w' := by
  have hl1 := hide h.cuts.1
  have hl2 := hide h.vals.1
  have hcc := h.cc
  have hbox : Below w.heap.size w (w.alloc (.cells #[.string a.name, .slice A1 n1 c1, .slice A2 n2 c2] 64)) := (Below.refl _ _).alloc (Nat.le_refl _) _
  have hX := Box3.new w (.string a.name) (.slice A1 n1 c1) (.slice A2 n2 c2) 64
  have HV := hide (h.keep hbox)
  have HT := hide (ht.keep hbox)
  clear ht
  clear h
  cases hok : attrB a
  · have hfin := hide (attrT_no hok)
    go_enter Tryd.func51, Tryd.ntmps51
    go_wp2_with (fail)
    refine (implAttrOk_any A1 n1 c1 A2 n2 c2 a _ HV.out).mono ?_
    rintro e w1 ⟨rfl, hb1⟩
    rw [hok]
    have hB := bthen hbox hb1
    clear hb1 hX
    go_wp2
    go_ret
    exact ⟨by rw [hfin.out]; rfl, hB⟩
  have HOK := hide hok
  have HP := hide (attrB_parts hok)
  have hnm := (attrB_name hok).2
  clear hok
  go_enter Tryd.func51, Tryd.ntmps51
  go_wp2_with (fail)
  refine (implAttrOk_any A1 n1 c1 A2 n2 c2 a _ HV.out).mono ?_
  rintro e w1 ⟨rfl, hb1⟩
  rw [HOK.out]
  have hB := bthen hbox hb1
  replace hX := hX.keep hb1
  replace HV := hide (HV.out.keep hb1)
  replace HT := hide (HT.out.keep hb1)
  clear hb1 hbox
  have z1 : ¬ 9223372036854775807 < a.name.size + 1 := by omega
  rcases HP.out with ⟨p1, p2, p3, p4⟩ | ⟨p1, p2, p3, p4, p5⟩
  · have hn2v := hl2.out
    obtain rfl : n1 = 0 := by rw [hl1.out, p1]
    have hfin := hide (attrT_vals HOK.out (by omega))
    have hws := hide (show ∀ s ∈ a.vals, s.size ≤ 4096 from fun s hs => by have := attrB_words HOK.out p1 s hs; omega)
    have hJs := joinB_small (sep := comma) (by omega) hws.out (by decide)
    obtain ⟨J, hJ⟩ : ∃ J, J = joinB a.vals comma := ⟨_, rfl⟩
    rw [← hJ] at hfin hJs
    have HJ := hide hJ
    have z2 : ¬ 9223372036854775807 < a.name.size + 1 + J.size := by omega
    have hn24 : n2 ≤ 100 := by omega
    clear hJ p1 p2 p3 p4 hn2v
    obtain ⟨k0, k1, k2, k3⟩ := id hX
    go_wp2
    clear k0 k1 k2 k3
    have HS := Held3.of hX
    unfold Held3 at HS
    go_region_held3 (fun W => W.cell? ⟨w.heap.size, 0, none⟩ = some (.string a.name) ∧ W.cell? ⟨w.heap.size, 1, none⟩ = some (.slice A1 0 c1) ∧ W.cell? ⟨w.heap.size, 2, none⟩ = some (.slice A2 n2 c2) ∧ w.heap.size < W.heap.size ∧ Below w1.heap.size w1 W) (first | assumption | exact Held3.keep (by assumption) (by assumption) | exact Held3.drew (by assumption)) ((go_at_call 102; refine (join_any A2 n2 c2 a.vals comma _ (HV.out.vals.keep (Held3.below (by assumption))) hn24 hcc hws.out (by decide)).mono ?_; rintro e w2 ⟨rfl, hb2⟩; rw [← HJ.out]))
    all_goals
      have hH : Held3 w1 w.heap.size (.string a.name) (.slice A1 0 c1) (.slice A2 n2 c2) w2 := by assumption
      have hB2 := bthen hB hH.below
      clear hH HS
      go_wp2
      go_ret
      exact ⟨by rw [hfin.out]; rfl, hB2⟩
  · have hn1v := hl1.out
    have hn1p : 0 < n1 := by omega
    have hfin := hide (attrT_cuts HOK.out (by omega))
    have hbd := hide (show ∀ x ∈ a.cuts, -999999 ≤ x ∧ x ≤ 999999 from fun x hx => by
      obtain ⟨i, hi, rfl⟩ := List.mem_iff_getElem.1 hx
      have := p5 i hi
      rw [List.getElem?_eq_getElem hi, Option.getD_some] at this
      omega)
    have hJs := joinB_small (l := a.cuts.map numB) (sep := comma) (by rw [List.length_map]; omega) (nums_size hbd.out) (by decide)
    obtain ⟨J, hJ⟩ : ∃ J, J = joinB (a.cuts.map numB) comma := ⟨_, rfl⟩
    rw [← hJ] at hfin hJs
    have HJ := hide hJ
    have z2 : ¬ 9223372036854775807 < a.name.size + 1 + J.size := by omega
    have hn13 : n1 ≤ 100 := by omega
    clear hJ p1 p2 p3 p4 p5 hn1v
    obtain ⟨k0, k1, k2, k3⟩ := id hX
    go_wp2
    clear k0 k1 k2 k3
    have HS := Held3.of hX
    unfold Held3 at HS
    go_region_held3 (fun W => W.cell? ⟨w.heap.size, 0, none⟩ = some (.string a.name) ∧ W.cell? ⟨w.heap.size, 1, none⟩ = some (.slice A1 n1 c1) ∧ W.cell? ⟨w.heap.size, 2, none⟩ = some (.slice A2 n2 c2) ∧ w.heap.size < W.heap.size ∧ Below w1.heap.size w1 W) (first | assumption | exact Held3.keep (by assumption) (by assumption) | exact Held3.drew (by assumption)) ((go_at_call 119; refine (numbersText_any A1 n1 c1 a.cuts _ (HV.out.cuts.keep (Held3.below (by assumption))) hn13 hbd.out (HT.out.keep (Held3.below (by assumption)))).mono ?_; rintro e w2 ⟨rfl, hb2⟩; rw [← HJ.out]))
    all_goals
      have hH : Held3 w1 w.heap.size (.string a.name) (.slice A1 n1 c1) (.slice A2 n2 c2) w2 := by assumption
      have hB2 := bthen hB hH.below
      clear hH HS
      go_wp2
      go_ret
      exact ⟨by rw [hfin.out]; rfl, hB2⟩
end Go.Proofs.YtohodehmidbmlaaDoor
