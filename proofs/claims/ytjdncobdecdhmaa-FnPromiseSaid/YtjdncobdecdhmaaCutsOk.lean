/-
  Contracts: cuts that ascend.
-/
import Derived.Test.YtjdncobdecdhmaaWords2
namespace Go.Proofs.Ytjdncobdecdhmaa
open Go.RowKit

def ascB (l : List Int) : Bool := (List.range (l.length - 1)).all fun i => decide (l[i]?.getD 0 < l[i + 1]?.getD 0)
theorem ascB_iff {l : List Int} : ascB l = true ↔ ∀ i, i + 1 < l.length → l[i]?.getD 0 < l[i + 1]?.getD 0 := by
  simp only [ascB, List.all_eq_true, List.mem_range, decide_eq_true_eq]
  exact ⟨fun h i hi => h i (by omega), fun h i hi => h i (by omega)⟩
theorem ascB_bad {l : List Int} {k : Nat} (h1 : 1 ≤ k) (hk : k < l.length) (h : ¬ l[k - 1]?.getD 0 < l[k]?.getD 0) : ascB l = false := by
  rw [← Bool.not_eq_true, ascB_iff]
  intro hh
  have := hh (k - 1) (by omega)
  rw [show k - 1 + 1 = k by omega] at this
  exact h this
def ascTo (l : List Int) (k : Nat) : Prop := ∀ i, i + 1 < k → l[i]?.getD 0 < l[i + 1]?.getD 0
theorem ascTo_step {l : List Int} {k : Nat} (h1 : 1 ≤ k) (h : ascTo l k) (hx : l[k - 1]?.getD 0 < l[k]?.getD 0) : ascTo l (k + 1) := by
  intro i hi
  by_cases hik : i + 1 < k
  · exact h i hik
  · obtain rfl : i = k - 1 := by omega
    rw [show k - 1 + 1 = k by omega]
    exact hx
/-- Right cuts. -/
def cutsB (l : List Int) : Bool := inB l.length 1 3 && (ascB l && l.all fun x => inB x (-9999) 9998)

set_option maxHeartbeats 1000000 in
theorem ascending_any (A : Option Addr) (n c : Nat) (l : List Int) (w : World) (hl : Ints w A n l) (hn : n ≤ 2097152) :
    Calls Try.prog 74 #[.slice A n c] w fun e w' => e = .returned (.bool (ascB l)) ∧ ∃ q, w' = w.drewN q := by
  have HL := hide hl
  clear hl
  go_enter Try.func74, Try.ntmps74
  go_wp2
  go_loopw [3] (fun i wr => ∃ k : Nat, 1 ≤ k ∧ i = .int .i64 k ∧ (k ≤ n ∨ k = 1) ∧ Hid (ascTo l k) ∧ ∃ q, wr = w.drewN q) (fun i _ => n - (intOf i).toNat)
  case atStart => exact ⟨1, by omega, rfl, .inr rfl, fun i hi => by omega, 0, rfl⟩
  case round =>
    obtain ⟨k, h1, rfl, hk, has, q, rfl⟩ := hrel
    by_cases hlt : k < n
    · obtain ⟨ad, rfl, _, hcell⟩ := (HL.out).at_ hlt
      obtain ⟨ad', e, _, hcell2⟩ := (HL.out).at_ (k := k - 1) (by omega)
      injection e with e
      subst e
      obtain ⟨X, hX⟩ : ∃ X, X = l[k]?.getD 0 := ⟨_, rfl⟩
      obtain ⟨Y, hY⟩ : ∃ Y, Y = l[k - 1]?.getD 0 := ⟨_, rfl⟩
      rw [← hX] at hcell
      rw [← hY] at hcell2
      have HX := hide hX
      have HY := hide hY
      have hkl := hide (show k < l.length by have := (HL.out).1; omega)
      clear hX hY hk
      by_cases hlt2 : Y < X
      · have has' := hide (ascTo_step h1 has.out (by rw [← HX.out, ← HY.out]; exact hlt2))
        clear has
        go_wp2
        go_quiet (fail)
        go_wp2
        go_roundw
        case rel => exact ⟨k + 1, by omega, by go_num, .inl (by omega), has', _, rfl⟩
        case measure => simp [intOf]; omega
      · have hbad := hide (ascB_bad h1 hkl.out (by rw [← HX.out, ← HY.out]; exact hlt2))
        go_wp2
        go_quiet (fail)
        go_wp2
        go_ret
        exact ⟨ret_bool hbad.out.symm, _, World.drewN_drewN _ _ _⟩
    · have hfin := hide (show ascB l = true by
        rw [ascB_iff]
        intro i hi
        exact has.out i (by have := (HL.out).1; omega))
      clear hk
      go_wp2
      go_ret
      exact ⟨ret_bool hfin.out.symm, _, rfl⟩

theorem cutsOk1_any (x : Int) (w : World) : Calls Try.prog 75 #[.int .i64 x] w fun e w' => e = .returned (.bool (!inB x (-9999) 9998)) ∧ w = w' := by
  go_enter Try.func75, Try.ntmps75
  go_wp2_with (go_at_call 68; refine (isCut_any _ _).mono ?_; rintro e w' ⟨rfl, rfl⟩)
  go_ret
  exact ⟨rfl, rfl⟩

theorem any_not_all {l : List Int} {p : Int → Bool} : (!l.any fun x => !p x) = l.all p := by
  rw [List.any_eq_not_all_not]; simp

set_option maxHeartbeats 1000000 in
theorem implCutsOk_any (A : Option Addr) (n c : Nat) (l : List Int) (w : World) (hl : Ints w A n l) (hn : n ≤ 2097152) :
    Calls Try.prog 39 #[.slice A n c] w fun e w' => e = .returned (.bool (cutsB l)) ∧ Below w.heap.size w w' := by
  have HL := hide hl
  have hlen := hide (show (l.length : Int) = n by have := hl.1; omega)
  clear hl
  cases h1 : inB (n : Int) 1 3
  · have hfin := hide (show cutsB l = false by rw [cutsB, hlen.out, h1]; rfl)
    go_enter Try.func39, Try.ntmps39
    go_wp2_with (first | (go_at_call 65; refine (within_any _ _ _ _).mono ?_; rintro e w' ⟨rfl, rfl⟩))
    go_ret
    exact ⟨ret_bool hfin.out.symm, Below.refl _ _⟩
  · cases h2 : ascB l
    · have hfin := hide (show cutsB l = false by rw [cutsB, h2]; simp)
      go_enter Try.func39, Try.ntmps39
      go_wp2_with (first | (go_at_call 65; refine (within_any _ _ _ _).mono ?_; rintro e w' ⟨rfl, rfl⟩) | (go_at_call 74; refine (ascending_any _ n c l _ HL.out hn).mono ?_; rintro e w' ⟨rfl, q, rfl⟩))
      go_ret
      exact ⟨ret_bool hfin.out.symm, below_drewN (Below.refl _ _) _⟩
    · have hfin := hide (show cutsB l = l.all (fun x => inB x (-9999) 9998) by rw [cutsB, hlen.out, h1, h2]; simp)
      go_enter Try.func39, Try.ntmps39
      go_wp2_with (first | (go_at_call 65; refine (within_any _ _ _ _).mono ?_; rintro e w' ⟨rfl, rfl⟩) | (go_at_call 74; refine (ascending_any _ n c l _ HL.out hn).mono ?_; rintro e w' ⟨rfl, q, rfl⟩) | (go_at_call 66; refine (containsFunc_any _ _ Try.call75 cutsOk1_any _ n c l _ (by exact HL.out) hn).mono ?_; rintro e w' ⟨rfl, rfl⟩))
      go_ret
      exact ⟨ret_bool (by rw [hfin.out, any_not_all]), below_drewN (Below.refl _ _) _⟩
end Go.Proofs.Ytjdncobdecdhmaa
