/-
  Walks of laws whose result is one slice.
-/
import Derived.Test.YtnnhngdconbbfaaParts
namespace Go.Proofs.Ytnnhngdconbbfaa
open Go.RowKit

set_option maxHeartbeats 1000000 in
theorem fnExactParts_small (w : World) (s : ByteArray) (h : s.size ≤ 1048576) (b : Int) :
    Calls Try.prog 18 #[.string s, .int .u8 b] w fun e w' => e = .returned (.bool true) ∧ Below w.heap.size w w' := by
  have hlen : (parts s b).length ≤ 2097152 := by have := parts_len s b; omega
  obtain ⟨l, hl⟩ : ∃ l, l = parts s b := ⟨_, rfl⟩
  rw [← hl] at hlen
  have HE := hide hl
  clear hl
  go_enter Try.func18, Try.ntmps18
  go_wp2_with (fail)
  refine (specParts_any s b _ h).mono ?_
  rintro e w1 ⟨D1, n1, m1, rfl, ho1, hn1, hb1⟩
  rw [← HE.out] at ho1 hn1
  subst hn1
  go_wp2_with (fail)
  refine (implParts_any s b _ h).mono ?_
  rintro e w2 ⟨D2, n2, m2, rfl, ho2, hn2, hb2⟩
  rw [← HE.out] at ho2 hn2
  subst hn2
  have hB2 := bthen hb1 hb2
  have hO1 := own_below ho1 hb2
  go_wp2_with (fail)
  refine (eqStringS_b _ _ _ _ _ _ l l _ (strs_of ho2) (strs_of hO1) (by omega) (by omega)).mono ?_
  rintro e w3 ⟨rfl, hb3⟩
  simp only [decide_true]
  have ho2' := own_below ho2 hb3
  go_wp2_with (fail)
  refine (markStringS_any _ _ _ _ l 1 _ ho2' (by omega) (by omega) (by omega)).mono ?_
  rintro e w4 ⟨rfl, ho4, hg4⟩
  have hB4 := below_only ho2' (bthen hB2 hb3) hg4 hb1.size
  have hO4 := (own_below hO1 hb3).kept hg4 (own_apart ho1 ho2 (Nat.le_refl _))
  go_wp2_with (fail)
  refine (heldStringS_any _ _ _ 1 _ (strs_of ho4) (by omega) (by omega) (by omega)).mono ?_
  rintro e w7 ⟨rfl, hb7⟩
  go_wp2_with (fail)
  refine (implParts_any s b _ h).mono ?_
  rintro e w5 ⟨D5, n5, m5, rfl, ho5, hn5, hb5⟩
  rw [← HE.out] at ho5 hn5
  subst hn5
  go_wp2_with (fail)
  refine (eqStringS_b _ _ _ _ _ _ l l _ (strs_of ho5) (strs_of (own_below (own_below hO4 hb7) hb5)) (by omega) (by omega)).mono ?_
  rintro e w6 ⟨rfl, hb6⟩
  simp only [decide_true]
  have hb56 := bthen hb7 (bthen hb5 hb6)
  go_wp2_with (fail)
  refine (heldStringS_any _ _ _ 1 _ (strs_of (own_below ho4 hb56)) (by omega) (by omega) (by omega)).mono ?_
  rintro e w8 ⟨rfl, hb8⟩
  have hfin := bthen (bthen hB4 hb56) hb8
  clear hb8
  clear hb1 hb2 hb3 hb5 hb6 hb7 hb56 hB2 hB4 hO1 hO4 ho1 ho2 ho2' ho4 ho5 hg4
  go_wp2
  go_ret
  exact ⟨rfl, hfin⟩

theorem fnExactParts_walk (w : World) (s : ByteArray) (hs : s.size ≤ maxLen) (b : Int) :
    Calls Try.prog 18 #[.string s, .int .u8 b] w fun e w' => e = .returned (.bool true) ∧ Below w.heap.size w w' := by
  unfold maxLen at hs
  by_cases h : s.size ≤ 1048576
  · exact fnExactParts_small w s h b
  · go_enter Try.func18, Try.ntmps18
    go_wp2
    go_ret
    exact ⟨rfl, Below.refl _ _⟩
end Go.Proofs.Ytnnhngdconbbfaa
