/-
  Walks of the laws GetNum, GetText.
-/
import Derived.Test.YtnnhngdconbbfaaGet2
namespace Go.Proofs.Ytnnhngdconbbfaa
open Go.RowKit

theorem wf_le {x : Int} (h : (Lit.int .i64 x).wf = true) : x ≤ 9223372036854775807 := by
  simp [Lit.wf, IntKind.min, IntKind.max, IntKind.signed, IntKind.bits] at h
  omega
theorem wf_ge {x : Int} (h : (Lit.int .i64 x).wf = true) : -9223372036854775808 ≤ x := by
  simp [Lit.wf, IntKind.min, IntKind.max, IntKind.signed, IntKind.bits] at h
  omega
theorem bytes_of2 {B : Nat} {w : World} {A : Option Addr} {n c : Nat} {l : List UInt8} (h : OwnB B w (.slice A n c) l) : Bytes w A n l := OwnB.ints h
theorem cap_of {w : World} {B : Nat} {e : TypeId} {sz n n' c : Nat} {A : Option Addr} {xs : List Value} (h : w.ownsRow B e sz (.slice A n c) n' xs) : n ≤ c ∧ c ≤ 9223372036854775807 := by
  rcases h.2 with ⟨hv, h0⟩ | ⟨g, cap, cur, hv, _, _, h1, h2, _⟩
  · injection hv with h1 h2 h3
    subst h2 h3
    omega
  · injection hv with h3 h4 h5
    subst h4 h5
    exact ⟨h1, by unfold maxLen at h2; exact h2⟩

set_option maxRecDepth 100000 in
set_option maxHeartbeats 2000000 in
theorem fnExactGetNum_walk (w : World) (A : Option Addr) (n c : Nat) (l : List UInt8) (hl : n ≤ maxLen) (hr : Bytes w A n l) (x : Int) (hx : (Lit.int .i64 x).wf = true) :
    Calls Try.prog 15 #[.slice A n c, .int .i64 x] w fun e w' => e = .returned (.bool true) ∧ Below w.heap.size w w' := by
  have HR := hide hr
  clear hr
  unfold maxLen at hl
  have hx1 : x ≤ 9223372036854775807 := wf_le hx
  clear hx
  by_cases h : n ≤ 1048576
  · go_enter Try.func15, Try.ntmps15
    go_wp2_with (fail)
    refine (toByteS_any _ _ _ l _ HR.out (by omega)).mono ?_
    rintro e w1 ⟨D1, m1, rfl, ho1, hb1⟩
    go_wp2_with (fail)
    refine (specGetNum_any _ _ _ l _ _ (bytes_of2 ho1) (by omega) hx1).mono ?_
    rintro e w' ⟨rfl, rfl⟩
    rcases hD : getD l x with _ | ⟨N, p⟩
    all_goals
      have HD := hide hD
      clear hD
      simp only [tripO]
      go_wp2_with (fail)
      refine (toByteS_any _ _ _ l _ (HR.out.keep hb1) (by omega)).mono ?_
      rintro e w2 ⟨D2, m2, rfl, ho2, hb2⟩
      have hB2 := bthen hb1 hb2
      go_wp2_with (fail)
      refine (implGetNum_any _ _ _ l _ _ (bytes_of2 ho2) (by omega) hx1).mono ?_
      rintro e w' ⟨rfl, rfl⟩
      rw [HD.out]
      simp only [tripO]
      go_wp2_with (fail)
      refine (toByteS_any _ _ _ l _ (HR.out.keep hB2) (by omega)).mono ?_
      rintro e w3 ⟨D3, m3, rfl, ho3, hb3⟩
      go_wp2_with (fail)
      refine (eqByteS_b _ _ _ _ _ _ l l _ ((bytes_of2 ho2).keep hb3) (bytes_of2 ho3) (by omega) (by omega)).mono ?_
      rintro e w4 ⟨rfl, hb4⟩
      simp only [decide_true]
      have hfin := bthen (bthen hB2 hb3) hb4
      clear hb1 hb2 hb3 hb4 hB2 ho1 ho2 ho3
      go_wp2
      go_ret
      exact ⟨rfl, hfin⟩
  · go_enter Try.func15, Try.ntmps15
    go_wp2
    go_ret
    exact ⟨rfl, Below.refl _ _⟩

set_option maxRecDepth 100000 in
set_option maxHeartbeats 2000000 in
theorem fnExactGetText_walk (w : World) (A : Option Addr) (n c : Nat) (l : List UInt8) (hl : n ≤ maxLen) (hr : Bytes w A n l) (x : Int) (hx : (Lit.int .i64 x).wf = true) :
    Calls Try.prog 19 #[.slice A n c, .int .i64 x] w fun e w' => e = .returned (.bool true) ∧ Below w.heap.size w w' := by
  have HR := hide hr
  clear hr
  unfold maxLen at hl
  have hx1 : x ≤ 9223372036854775807 := wf_le hx
  clear hx
  by_cases h : n ≤ 1048576
  · go_enter Try.func19, Try.ntmps19
    go_wp2_with (fail)
    refine (toByteS_any _ _ _ l _ HR.out (by omega)).mono ?_
    rintro e w1 ⟨D1, m1, rfl, ho1, hb1⟩
    go_wp2_with (fail)
    refine (specGetText_any _ _ _ l _ _ (bytes_of2 ho1) (by omega) (cap_of ho1).1 (cap_of ho1).2 hx1).mono ?_
    rintro e w' ⟨rfl, rfl⟩
    rcases hD : getT l x with _ | ⟨N, p⟩
    all_goals
      have HD := hide hD
      clear hD
      simp only [tripT]
      go_wp2_with (fail)
      refine (toByteS_any _ _ _ l _ (HR.out.keep hb1) (by omega)).mono ?_
      rintro e w2 ⟨D2, m2, rfl, ho2, hb2⟩
      have hB2 := bthen hb1 hb2
      go_wp2_with (fail)
      refine (implGetText_any _ _ _ l _ _ (bytes_of2 ho2) (by omega) (cap_of ho2).1 (cap_of ho2).2 hx1).mono ?_
      rintro e w' ⟨rfl, rfl⟩
      rw [HD.out]
      simp only [tripT]
      go_wp2_with (fail)
      refine (toByteS_any _ _ _ l _ (HR.out.keep hB2) (by omega)).mono ?_
      rintro e w3 ⟨D3, m3, rfl, ho3, hb3⟩
      go_wp2_with (fail)
      refine (eqByteS_b _ _ _ _ _ _ l l _ ((bytes_of2 ho2).keep hb3) (bytes_of2 ho3) (by omega) (by omega)).mono ?_
      rintro e w4 ⟨rfl, hb4⟩
      simp only [decide_true]
      have hfin := bthen (bthen hB2 hb3) hb4
      clear hb1 hb2 hb3 hb4 hB2 ho1 ho2 ho3
      go_wp2
      go_ret
      exact ⟨rfl, hfin⟩
  · go_enter Try.func19, Try.ntmps19
    go_wp2
    go_ret
    exact ⟨rfl, Below.refl _ _⟩
end Go.Proofs.Ytnnhngdconbbfaa
