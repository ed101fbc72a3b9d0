/-
  Contracts of functions that compute with integers alone. No condition beyond the ranges that each theorem names.
-/
import Derived.Test.YtnnhngdconbbfaaRows
import Derived.WalkKit
import Derived.WalkSpells
import Derived.WalkLawsBesides
import Derived.Deep.QuietTactic
import Derived.BigQuiet
namespace Go.Proofs.Ytnnhngdconbbfaa
open Go.RowKit

/-- x is from lo to hi. -/
def inB (x lo hi : Int) : Bool := decide (lo ≤ x) && decide (x ≤ hi)
theorem inB_iff {x lo hi : Int} : inB x lo hi = true ↔ lo ≤ x ∧ x ≤ hi := by simp [inB]
theorem inB_not {x lo hi : Int} : inB x lo hi = false ↔ ¬ (lo ≤ x ∧ x ≤ hi) := by rw [← Bool.not_eq_true, inB_iff]
theorem ret_bool {a b : Bool} (h : a = b) : Ending.returned (.bool a) = .returned (.bool b) := by rw [h]
theorem ret_int {a b : Int} (h : a = b) : Ending.returned (.int .i64 a) = .returned (.int .i64 b) := by rw [h]

theorem l1In_any (x lo hi : Int) (w : World) :
    Calls Try.prog 130 #[.int .i64 x, .int .i64 lo, .int .i64 hi] w fun e w' => e = .returned (.bool (inB x lo hi)) ∧ w = w' := by
  by_cases h1 : lo ≤ x
  all_goals
    go_enter Try.func130, Try.ntmps130
    go_wp2
    go_ret
    exact ⟨ret_bool (by simp [inB]; omega), rfl⟩

theorem within_any (x lo hi : Int) (w : World) :
    Calls Try.prog 131 #[.int .i64 x, .int .i64 lo, .int .i64 hi] w fun e w' => e = .returned (.bool (inB x lo hi)) ∧ w = w' := by
  by_cases h1 : lo ≤ x
  all_goals
    go_enter Try.func131, Try.ntmps131
    go_wp2
    go_ret
    exact ⟨ret_bool (by simp [inB]; omega), rfl⟩

/-- A fraction is right. -/
def fracOkB (n d : Int) : Bool := inB n 0 4000000000000000 && inB d 1 4000000000000000

theorem specFracOk_any (n d : Int) (w : World) :
    Calls Try.prog 36 #[.agg #[.int .i64 n, .int .i64 d]] w fun e w' => e = .returned (.bool (fracOkB n d)) ∧ Below w.heap.size w w' := by
  go_enter Try.func36, Try.ntmps36
  go_wp2_with (first | (go_at_call 130; refine (l1In_any _ _ _ _).mono ?_; rintro e w' ⟨rfl, rfl⟩))
  all_goals
    go_ret
    refine ⟨ret_bool ?_, (Below.refl _ _).alloc (Nat.le_refl _) _⟩
    simp [fracOkB, *]

theorem implFracOk_any (n d : Int) (w : World) :
    Calls Try.prog 38 #[.agg #[.int .i64 n, .int .i64 d]] w fun e w' => e = .returned (.bool (fracOkB n d)) ∧ Below w.heap.size w w' := by
  go_enter Try.func38, Try.ntmps38
  go_wp2_with (first | (go_at_call 131; refine (within_any _ _ _ _).mono ?_; rintro e w' ⟨rfl, rfl⟩))
  all_goals
    go_ret
    refine ⟨ret_bool ?_, (Below.refl _ _).alloc (Nat.le_refl _) _⟩
    simp [fracOkB, *]

theorem toFrac_any (n d : Int) (w : World) :
    Calls Try.prog 37 #[.agg #[.int .i64 n, .int .i64 d]] w fun e w' => e = .returned (.agg #[.int .i64 n, .int .i64 d]) ∧ Below w.heap.size w w' := by
  go_enter Try.func37, Try.ntmps37
  go_wp2
  exact bodyPost_ret (v := .agg #[.int .i64 n, .int .i64 d]) (by simp [results, Try.results37, go_sem]) rfl
    ⟨rfl, (((Below.refl _ _).alloc (Nat.le_refl _) _).alloc (by simp) _).alloc (by simp; omega) _⟩

theorem fracOkB_le {n d : Int} (h : fracOkB n d = true) : 0 ≤ n ∧ n ≤ 4000000000000000 ∧ 1 ≤ d ∧ d ≤ 4000000000000000 := by
  simp only [fracOkB, Bool.and_eq_true, inB_iff] at h
  omega

/-- The logarithm's table value. -/
def lnI (k : Int) : Int := if inB k 1 9 then (k * 2302585 + 999) / 1000 else 0

theorem specLnOf_any (k : Int) (w : World) :
    Calls Try.prog 39 #[.int .i64 k] w fun e w' => e = .returned (.int .i64 (lnI k)) ∧ w = w' := by
  by_cases h : inB k 1 9 = true
  · obtain ⟨h1, h2⟩ := inB_iff.1 h
    go_enter Try.func39, Try.ntmps39
    go_wp2_with (first | (go_at_call 130; refine (l1In_any _ _ _ _).mono ?_; rintro e w' ⟨rfl, rfl⟩))
    go_ret
    exact ⟨ret_int (by simp [lnI, h]), rfl⟩
  · have h' : inB k 1 9 = false := by simpa using h
    clear h
    go_enter Try.func39, Try.ntmps39
    go_wp2_with (first | (go_at_call 130; refine (l1In_any _ _ _ _).mono ?_; rintro e w' ⟨rfl, rfl⟩))
    go_ret
    exact ⟨ret_int (by simp [lnI, h']), rfl⟩

theorem implLnOf_any (k : Int) (w : World) :
    Calls Try.prog 40 #[.int .i64 k] w fun e w' => e = .returned (.int .i64 (lnI k)) ∧ w = w' := by
  by_cases h : inB k 1 9 = true
  · obtain ⟨h1, h2⟩ := inB_iff.1 h
    go_enter Try.func40, Try.ntmps40
    go_wp2_with (first | (go_at_call 131; refine (within_any _ _ _ _).mono ?_; rintro e w' ⟨rfl, rfl⟩))
    go_ret
    exact ⟨ret_int (by simp [lnI, h]), rfl⟩
  · have h' : inB k 1 9 = false := by simpa using h
    clear h
    go_enter Try.func40, Try.ntmps40
    go_wp2_with (first | (go_at_call 131; refine (within_any _ _ _ _).mono ?_; rintro e w' ⟨rfl, rfl⟩))
    go_ret
    exact ⟨ret_int (by simp [lnI, h']), rfl⟩

/-- A thousand times a fraction, rounded down. -/
def thouI (n d : Int) : Int := if fracOkB n d && decide (n ≤ d) then n * 1000 / d else -1

theorem specThousandths_any (n d : Int) (w : World) :
    Calls Try.prog 45 #[.agg #[.int .i64 n, .int .i64 d]] w fun e w' => e = .returned (.int .i64 (thouI n d)) ∧ Below w.heap.size w w' := by
  by_cases h : fracOkB n d = true
  · obtain ⟨h1, h2, h3, h4⟩ := fracOkB_le h
    by_cases h5 : n ≤ d
    all_goals
      go_enter Try.func45, Try.ntmps45
      go_wp2_with (first | (go_at_call 36; refine (specFracOk_any _ _ _).mono ?_; rintro e w' ⟨rfl, hb⟩; have hc0 := hb.cell (p := ⟨w.heap.size, 0, none⟩) (by simp); have hc1 := hb.cell (p := ⟨w.heap.size, 1, none⟩) (by simp)))
      go_ret
      refine ⟨ret_int (by simp [thouI, h]; try omega), ((Below.refl _ _).alloc (Nat.le_refl _) _).trans (hb.mono (by simp))⟩
  · have h' : fracOkB n d = false := by simpa using h
    clear h
    go_enter Try.func45, Try.ntmps45
    go_wp2_with (first | (go_at_call 36; refine (specFracOk_any _ _ _).mono ?_; rintro e w' ⟨rfl, hb⟩))
    go_ret
    exact ⟨ret_int (by simp [thouI, h']), ((Below.refl _ _).alloc (Nat.le_refl _) _).trans (hb.mono (by simp))⟩
theorem implThousandths_any (n d : Int) (w : World) :
    Calls Try.prog 46 #[.agg #[.int .i64 n, .int .i64 d]] w fun e w' => e = .returned (.int .i64 (thouI n d)) ∧ Below w.heap.size w w' := by
  by_cases h : fracOkB n d = true
  · obtain ⟨h1, h2, h3, h4⟩ := fracOkB_le h
    by_cases h5 : n ≤ d
    all_goals
      go_enter Try.func46, Try.ntmps46
      go_wp2_with (first | (go_at_call 38; refine (implFracOk_any _ _ _).mono ?_; rintro e w' ⟨rfl, hb⟩; have hc0 := hb.cell (p := ⟨w.heap.size, 0, none⟩) (by simp); have hc1 := hb.cell (p := ⟨w.heap.size, 1, none⟩) (by simp)))
      go_ret
      refine ⟨ret_int (by simp [thouI, h]; try (rw [Int.mul_comm]); try omega), ((Below.refl _ _).alloc (Nat.le_refl _) _).trans (hb.mono (by simp))⟩
  · have h' : fracOkB n d = false := by simpa using h
    clear h
    go_enter Try.func46, Try.ntmps46
    go_wp2_with (first | (go_at_call 38; refine (implFracOk_any _ _ _).mono ?_; rintro e w' ⟨rfl, hb⟩))
    go_ret
    exact ⟨ret_int (by simp [thouI, h']), ((Below.refl _ _).alloc (Nat.le_refl _) _).trans (hb.mono (by simp))⟩
end Go.Proofs.Ytnnhngdconbbfaa
