/-
  Walks of laws whose result is one slice. No condition.
-/
import Derived.Test.YtnnhngdconbbfaaPut
namespace Go.Proofs.Ytnnhngdconbbfaa
open Go.RowKit

set_option maxHeartbeats 1000000 in
theorem fnExactPutNum_walk (w : World) (x : Int) (_ : (Lit.int .i64 x).wf = true) :
    Calls Try.prog 14 #[.int .i64 x] w fun e w' => e = .returned (.bool true) ∧ Below w.heap.size w w' := by
  have hlen : (putB x).length ≤ 2097152 := Nat.le_trans (putB_len x) (by omega)
  obtain ⟨l, hl⟩ : ∃ l, l = putB x := ⟨_, rfl⟩
  rw [← hl] at hlen
  have HE := hide hl
  clear hl
  go_enter Try.func14, Try.ntmps14
  go_wp2_with (fail)
  refine (specPutNum_any x _).mono ?_
  rintro e w1 ⟨D1, n1, m1, rfl, ho1, hn1, hb1⟩
  rw [← HE.out] at ho1 hn1
  subst hn1
  go_wp2_with (fail)
  refine (implPutNum_any x _).mono ?_
  rintro e w2 ⟨D2, n2, m2, rfl, ho2, hn2, hb2⟩
  rw [← HE.out] at ho2 hn2
  subst hn2
  have hB2 := bthen hb1 hb2
  have hO1 := own_below ho1 hb2
  go_wp2_with (fail)
  refine (eqByteS_b _ _ _ _ _ _ l l _ (bytes_of ho2) (bytes_of hO1) (by omega) (by omega)).mono ?_
  rintro e w3 ⟨rfl, hb3⟩
  simp only [decide_true]
  have ho2' := own_below ho2 hb3
  go_wp2_with (fail)
  refine (markByteS_any _ _ _ _ l 1 _ ho2' (by omega) (by omega) (by omega)).mono ?_
  rintro e w4 ⟨rfl, ho4, hg4⟩
  have hB4 := below_only ho2' (bthen hB2 hb3) hg4 hb1.size
  have hO4 := (own_below hO1 hb3).kept hg4 (own_apart ho1 ho2 (Nat.le_refl _))
  go_wp2_with (fail)
  refine (heldByteS_any _ _ _ 1 _ (bytes_of ho4) (by omega) (by omega) (by omega)).mono ?_
  rintro e w' ⟨rfl, rfl⟩
  have hb7 := Below.refl w4.heap.size w4
  go_wp2_with (fail)
  refine (implPutNum_any x _).mono ?_
  rintro e w5 ⟨D5, n5, m5, rfl, ho5, hn5, hb5⟩
  rw [← HE.out] at ho5 hn5
  subst hn5
  go_wp2_with (fail)
  refine (eqByteS_b _ _ _ _ _ _ l l _ (bytes_of ho5) (bytes_of (own_below (own_below hO4 hb7) hb5)) (by omega) (by omega)).mono ?_
  rintro e w6 ⟨rfl, hb6⟩
  simp only [decide_true]
  have hb56 := bthen hb7 (bthen hb5 hb6)
  go_wp2_with (fail)
  refine (heldByteS_any _ _ _ 1 _ (bytes_of (own_below ho4 hb56)) (by omega) (by omega) (by omega)).mono ?_
  rintro e w' ⟨rfl, rfl⟩
  have hfin := bthen hB4 hb56
  clear hb1 hb2 hb3 hb5 hb6 hb7 hb56 hB2 hB4 hO1 hO4 ho1 ho2 ho2' ho4 ho5 hg4
  go_wp2
  go_ret
  exact ⟨rfl, hfin⟩

set_option maxHeartbeats 1000000 in
theorem fnExactPutText_small (w : World) (s : ByteArray) (h : s.size ≤ 1048576) :
    Calls Try.prog 16 #[.string s] w fun e w' => e = .returned (.bool true) ∧ Below w.heap.size w w' := by
  have hlen : (putT s).length ≤ 2097152 := by have := putB_len s.size; rw [putT_len]; omega
  obtain ⟨l, hl⟩ : ∃ l, l = putT s := ⟨_, rfl⟩
  rw [← hl] at hlen
  have HE := hide hl
  clear hl
  go_enter Try.func16, Try.ntmps16
  go_wp2_with (fail)
  refine (specPutText_any s _ h).mono ?_
  rintro e w1 ⟨D1, n1, m1, rfl, ho1, hn1, hb1⟩
  rw [← HE.out] at ho1 hn1
  subst hn1
  go_wp2_with (fail)
  refine (implPutText_any s _ h).mono ?_
  rintro e w2 ⟨D2, n2, m2, rfl, ho2, hn2, hb2⟩
  rw [← HE.out] at ho2 hn2
  subst hn2
  have hB2 := bthen hb1 hb2
  have hO1 := own_below ho1 hb2
  go_wp2_with (fail)
  refine (eqByteS_b _ _ _ _ _ _ l l _ (bytes_of ho2) (bytes_of hO1) (by omega) (by omega)).mono ?_
  rintro e w3 ⟨rfl, hb3⟩
  simp only [decide_true]
  have ho2' := own_below ho2 hb3
  go_wp2_with (fail)
  refine (markByteS_any _ _ _ _ l 1 _ ho2' (by omega) (by omega) (by omega)).mono ?_
  rintro e w4 ⟨rfl, ho4, hg4⟩
  have hB4 := below_only ho2' (bthen hB2 hb3) hg4 hb1.size
  have hO4 := (own_below hO1 hb3).kept hg4 (own_apart ho1 ho2 (Nat.le_refl _))
  go_wp2_with (fail)
  refine (heldByteS_any _ _ _ 1 _ (bytes_of ho4) (by omega) (by omega) (by omega)).mono ?_
  rintro e w' ⟨rfl, rfl⟩
  have hb7 := Below.refl w4.heap.size w4
  go_wp2_with (fail)
  refine (implPutText_any s _ h).mono ?_
  rintro e w5 ⟨D5, n5, m5, rfl, ho5, hn5, hb5⟩
  rw [← HE.out] at ho5 hn5
  subst hn5
  go_wp2_with (fail)
  refine (eqByteS_b _ _ _ _ _ _ l l _ (bytes_of ho5) (bytes_of (own_below (own_below hO4 hb7) hb5)) (by omega) (by omega)).mono ?_
  rintro e w6 ⟨rfl, hb6⟩
  simp only [decide_true]
  have hb56 := bthen hb7 (bthen hb5 hb6)
  go_wp2_with (fail)
  refine (heldByteS_any _ _ _ 1 _ (bytes_of (own_below ho4 hb56)) (by omega) (by omega) (by omega)).mono ?_
  rintro e w' ⟨rfl, rfl⟩
  have hfin := bthen hB4 hb56
  clear hb1 hb2 hb3 hb5 hb6 hb7 hb56 hB2 hB4 hO1 hO4 ho1 ho2 ho2' ho4 ho5 hg4
  go_wp2
  go_ret
  exact ⟨rfl, hfin⟩

theorem fnExactPutText_walk (w : World) (s : ByteArray) (hs : s.size ≤ maxLen) :
    Calls Try.prog 16 #[.string s] w fun e w' => e = .returned (.bool true) ∧ Below w.heap.size w w' := by
  unfold maxLen at hs
  by_cases h : s.size ≤ 1048576
  · exact fnExactPutText_small w s h
  · go_enter Try.func16, Try.ntmps16
    go_wp2
    go_ret
    exact ⟨rfl, Below.refl _ _⟩
end Go.Proofs.Ytnnhngdconbbfaa
