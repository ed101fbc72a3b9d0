/-
  Contracts: the text of a fraction; its law.
-/
import Derived.Test.YtohodehmidbmlaaDoorLawT
import Derived.Deep.RegionHeld3
namespace Go.Proofs.YtohodehmidbmlaaDoor
open Go.RowKit
set_option maxRecDepth 100000

theorem numB_size (n : Int) (h0 : -9223372036854775808 ≤ n) (h1 : n ≤ 9223372036854775807) : (numB n).size ≤ 21 := by
  show (Lib.itoa n).toArray.size ≤ 21
  rw [List.size_toArray]
  exact Lib.itoa_length_le n h0 h1
def Held2 (w : World) (b : Nat) (x y : Value) (W : World) : Prop := W.cell? ⟨b, 0, none⟩ = some x ∧ W.cell? ⟨b, 1, none⟩ = some y ∧ b < W.heap.size ∧ Below w.heap.size w W
theorem Held2.keep {w W W1 : World} {b : Nat} {x y : Value} (hb : Below W.heap.size W W1) (h : Held2 w b x y W) : Held2 w b x y W1 := by
  obtain ⟨h0, h1, h2, h3⟩ := h
  exact ⟨(hb.cell (p := ⟨b, 0, none⟩) h2).trans h0, (hb.cell (p := ⟨b, 1, none⟩) h2).trans h1, Nat.lt_of_lt_of_le h2 hb.size, bthen h3 hb⟩
theorem Held2.drew {w W : World} {b : Nat} {x y : Value} (h : Held2 w b x y W) : Held2 w b x y W.drew := Held2.keep (Below.refl _ _).drew h
theorem Held2.below {w W : World} {b : Nat} {x y : Value} (h : Held2 w b x y W) : Below w.heap.size w W := h.2.2.2
/-- The text of a fraction. -/
def fracT (n d : Int) : ByteArray := if fracOkB n d = true then numB n ++ ⟨#[47]⟩ ++ numB d else ⟨#[]⟩

set_option maxHeartbeats 2000000 in
theorem specFracText_any (n d : Int) (w : World) (ht : TabW w) :
    Calls Tryd.prog 40 #[.agg #[.int .i64 n, .int .i64 d]] w fun e w' => e = .returned (.string (fracT n d)) ∧ Below w.heap.size w w' := by
  have hal : Below w.heap.size w (w.alloc (.cells #[.int .i64 n, .int .i64 d] 57)) := (Below.refl _ _).alloc (Nat.le_refl _) _
  have HT := hide (ht.keep hal)
  clear ht
  cases hok : fracOkB n d
  · have hfin := hide (show fracT n d = ⟨#[]⟩ by rw [fracT, hok]; rfl)
    go_enter Tryd.func40, Tryd.ntmps40
    go_wp2_with (fail)
    refine (specFracOk_any n d _).mono ?_
    rintro e w1 ⟨rfl, hb1⟩
    rw [hok]
    have hB := bthen hal hb1
    clear hb1
    go_wp2
    go_ret
    exact ⟨by rw [hfin.out]; rfl, hB⟩
  · have hfin := hide (show fracT n d = numB n ++ ⟨#[47]⟩ ++ numB d by rw [fracT, hok]; rfl)
    have hnd : (0 ≤ n ∧ n ≤ 4000000000000000) ∧ (1 ≤ d ∧ d ≤ 4000000000000000) := by
      have h := hok
      simp only [fracOkB, Bool.and_eq_true, inB_iff] at h
      exact h
    obtain ⟨⟨n0, n1⟩, d0, d1⟩ := hnd
    have z1 := numB_size n (by omega) (by omega)
    have z2 := numB_size d (by omega) (by omega)
    have z3 : ¬ 9223372036854775807 < (numB n).size + 1 := by omega
    have z4 : ¬ 9223372036854775807 < (numB n).size + 1 + (numB d).size := by omega
    go_enter Tryd.func40, Tryd.ntmps40
    go_wp2_with (fail)
    refine (specFracOk_any n d _).mono ?_
    rintro e w1 ⟨rfl, hb1⟩
    rw [hok]
    have hB := bthen hal hb1
    replace HT := hide (HT.out.keep hb1)
    have hz : w.heap.size < w1.heap.size := by have := hb1.size; simp at this; omega
    have HS : Held2 w1 w.heap.size (.int .i64 n) (.int .i64 d) w1 := by
      refine ⟨(hb1.cell (p := ⟨w.heap.size, 0, none⟩) (by simp)).trans ?_, (hb1.cell (p := ⟨w.heap.size, 1, none⟩) (by simp)).trans ?_, hz, Below.refl _ _⟩
      · rw [cell_of_row _ w.heap.size 0 #[.int .i64 n, .int .i64 d] 57 (0, 0) (heap_alloc_new w _)]; rfl
      · rw [cell_of_row _ w.heap.size 1 #[.int .i64 n, .int .i64 d] 57 (0, 0) (heap_alloc_new w _)]; rfl
    clear hb1 hok
    go_wp2
    unfold Held2 at HS
    go_region_held3 (fun W => W.cell? ⟨w.heap.size, 0, none⟩ = some (.int .i64 n) ∧ W.cell? ⟨w.heap.size, 1, none⟩ = some (.int .i64 d) ∧ w.heap.size < W.heap.size ∧ Below w1.heap.size w1 W) (first | assumption | exact Held2.keep (by assumption) (by assumption) | exact Held2.drew (by assumption)) ((go_at_call 38; refine (specDigits_any _ (by omega) (by omega) _).mono ?_; rintro e w2 ⟨rfl, hb2⟩))
    all_goals
      have hH : Held2 w1 w.heap.size (.int .i64 n) (.int .i64 d) w2 := by assumption
      have hB2 := bthen hB hH.below
      clear hH HS
      go_wp2
      go_ret
      exact ⟨by rw [hfin.out]; rfl, hB2⟩

set_option maxHeartbeats 2000000 in
theorem implFracText_any (n d : Int) (w : World) (ht : TabW w) :
    Calls Tryd.prog 42 #[.agg #[.int .i64 n, .int .i64 d]] w fun e w' => e = .returned (.string (fracT n d)) ∧ Below w.heap.size w w' := by
  have hal : Below w.heap.size w (w.alloc (.cells #[.int .i64 n, .int .i64 d] 57)) := (Below.refl _ _).alloc (Nat.le_refl _) _
  have HT := hide (ht.keep hal)
  clear ht
  cases hok : fracOkB n d
  · have hfin := hide (show fracT n d = ⟨#[]⟩ by rw [fracT, hok]; rfl)
    go_enter Tryd.func42, Tryd.ntmps42
    go_wp2_with (fail)
    refine (implFracOk_any n d _).mono ?_
    rintro e w1 ⟨rfl, hb1⟩
    rw [hok]
    have hB := bthen hal hb1
    clear hb1
    go_wp2
    go_ret
    exact ⟨by rw [hfin.out]; rfl, hB⟩
  · have hfin := hide (show fracT n d = numB n ++ ⟨#[47]⟩ ++ numB d by rw [fracT, hok]; rfl)
    have hnd : (0 ≤ n ∧ n ≤ 4000000000000000) ∧ (1 ≤ d ∧ d ≤ 4000000000000000) := by
      have h := hok
      simp only [fracOkB, Bool.and_eq_true, inB_iff] at h
      exact h
    obtain ⟨⟨n0, n1⟩, d0, d1⟩ := hnd
    have z1 := numB_size n (by omega) (by omega)
    have z2 := numB_size d (by omega) (by omega)
    have z3 : ¬ 9223372036854775807 < (numB n).size + 1 := by omega
    have z4 : ¬ 9223372036854775807 < (numB n).size + 1 + (numB d).size := by omega
    go_enter Tryd.func42, Tryd.ntmps42
    go_wp2_with (fail)
    refine (implFracOk_any n d _).mono ?_
    rintro e w1 ⟨rfl, hb1⟩
    rw [hok]
    have hB := bthen hal hb1
    replace HT := hide (HT.out.keep hb1)
    have hz : w.heap.size < w1.heap.size := by have := hb1.size; simp at this; omega
    have HS : Held2 w1 w.heap.size (.int .i64 n) (.int .i64 d) w1 := by
      refine ⟨(hb1.cell (p := ⟨w.heap.size, 0, none⟩) (by simp)).trans ?_, (hb1.cell (p := ⟨w.heap.size, 1, none⟩) (by simp)).trans ?_, hz, Below.refl _ _⟩
      · rw [cell_of_row _ w.heap.size 0 #[.int .i64 n, .int .i64 d] 57 (0, 0) (heap_alloc_new w _)]; rfl
      · rw [cell_of_row _ w.heap.size 1 #[.int .i64 n, .int .i64 d] 57 (0, 0) (heap_alloc_new w _)]; rfl
    clear hb1 hok
    go_wp2
    unfold Held2 at HS
    go_region_held3 (fun W => W.cell? ⟨w.heap.size, 0, none⟩ = some (.int .i64 n) ∧ W.cell? ⟨w.heap.size, 1, none⟩ = some (.int .i64 d) ∧ w.heap.size < W.heap.size ∧ Below w1.heap.size w1 W) (first | assumption | exact Held2.keep (by assumption) (by assumption) | exact Held2.drew (by assumption)) ((go_at_call 39; refine (implDigits_any _ (by omega) (by omega) _ (HT.out.keep (Held2.below (by assumption)))).mono ?_; rintro e w2 ⟨rfl, hb2⟩))
    all_goals
      have hH : Held2 w1 w.heap.size (.int .i64 n) (.int .i64 d) w2 := by assumption
      have hB2 := bthen hB hH.below
      clear hH HS
      go_wp2
      go_ret
      exact ⟨by rw [hfin.out]; rfl, hB2⟩

theorem fnExactFracText_walk (w : World) (a b : Int) (_ : (Lit.int .i64 a).wf = true) (_ : (Lit.int .i64 b).wf = true) (ht : TabW w) :
    Calls Tryd.prog 7 #[.agg #[.int .i64 a, .int .i64 b]] w fun e w' => e = .returned (.bool true) ∧ Below w.heap.size w w' := by
  have hal : Below w.heap.size w (w.alloc (.cells #[.int .i64 a, .int .i64 b] 55)) := (Below.refl _ _).alloc (Nat.le_refl _) _
  have HT := hide (ht.keep hal)
  have hne : ((fracT a b).toList != (fracT a b).toList) = false := by simp
  clear ht
  go_enter Tryd.func7, Tryd.ntmps7
  go_wp2_with (fail)
  refine (toFrac_any a b _).mono ?_
  rintro e w1 ⟨rfl, hb1⟩
  have hB1 := bthen hal hb1
  replace HT := hide (HT.out.keep hb1)
  go_wp2_with (fail)
  refine (specFracText_any a b _ HT.out).mono ?_
  rintro e w2 ⟨rfl, hb2⟩
  have hB2 := bthen hB1 hb2
  replace HT := hide (HT.out.keep hb2)
  have hbb := bthen hb1 hb2
  have k0 : w2.cell? ⟨w.heap.size, 0, none⟩ = some (.int .i64 a) := (hbb.cell (p := ⟨w.heap.size, 0, none⟩) (by simp)).trans (by rw [cell_of_row _ w.heap.size 0 #[.int .i64 a, .int .i64 b] 55 (0, 0) (heap_alloc_new w _)]; rfl)
  have k1 : w2.cell? ⟨w.heap.size, 1, none⟩ = some (.int .i64 b) := (hbb.cell (p := ⟨w.heap.size, 1, none⟩) (by simp)).trans (by rw [cell_of_row _ w.heap.size 1 #[.int .i64 a, .int .i64 b] 55 (0, 0) (heap_alloc_new w _)]; rfl)
  clear hb1 hb2 hB1 hbb
  go_wp2_with (fail)
  refine (toFrac_any a b _).mono ?_
  rintro e w3 ⟨rfl, hb3⟩
  replace HT := hide (HT.out.keep hb3)
  go_wp2_with (fail)
  refine (implFracText_any a b _ HT.out).mono ?_
  rintro e w4 ⟨rfl, hb4⟩
  have hB := bthen (bthen hB2 hb3) hb4
  clear hb3 hb4 hB2 k0 k1
  go_wp2
  go_ret
  exact ⟨rfl, hB⟩
end Go.Proofs.YtohodehmidbmlaaDoor
