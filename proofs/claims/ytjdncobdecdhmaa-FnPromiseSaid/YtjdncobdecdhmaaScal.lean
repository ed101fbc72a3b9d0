/-
  Contracts of functions that compute with integers alone. No condition beyond the ranges that each theorem names.
-/
import Derived.Test.YtjdncobdecdhmaaRows
import Derived.WalkKit
import Derived.WalkSpells
import Derived.WalkLawsBesides
import Derived.Deep.QuietTactic
import Derived.BigQuiet
namespace Go.Proofs.Ytjdncobdecdhmaa
open Go.RowKit

/-- x is from lo to hi. -/
def inB (x lo hi : Int) : Bool := decide (lo ≤ x) && decide (x ≤ hi)
theorem inB_iff {x lo hi : Int} : inB x lo hi = true ↔ lo ≤ x ∧ x ≤ hi := by simp [inB]
theorem inB_not {x lo hi : Int} : inB x lo hi = false ↔ ¬ (lo ≤ x ∧ x ≤ hi) := by rw [← Bool.not_eq_true, inB_iff]
theorem ret_bool {a b : Bool} (h : a = b) : Ending.returned (.bool a) = .returned (.bool b) := by rw [h]
theorem ret_int {a b : Int} (h : a = b) : Ending.returned (.int .i64 a) = .returned (.int .i64 b) := by rw [h]

theorem l1In_any (x lo hi : Int) (w : World) :
    Calls Try.prog 64 #[.int .i64 x, .int .i64 lo, .int .i64 hi] w fun e w' => e = .returned (.bool (inB x lo hi)) ∧ w = w' := by
  by_cases h1 : lo ≤ x
  all_goals
    go_enter Try.func64, Try.ntmps64
    go_wp2
    go_ret
    exact ⟨ret_bool (by simp [inB]; omega), rfl⟩

theorem within_any (x lo hi : Int) (w : World) :
    Calls Try.prog 65 #[.int .i64 x, .int .i64 lo, .int .i64 hi] w fun e w' => e = .returned (.bool (inB x lo hi)) ∧ w = w' := by
  by_cases h1 : lo ≤ x
  all_goals
    go_enter Try.func65, Try.ntmps65
    go_wp2
    go_ret
    exact ⟨ret_bool (by simp [inB]; omega), rfl⟩

/-- A fraction is right. -/
def fracOkB (n d : Int) : Bool := inB n 0 4000000000000000 && inB d 1 4000000000000000

theorem fracOkB_le {n d : Int} (h : fracOkB n d = true) : 0 ≤ n ∧ n ≤ 4000000000000000 ∧ 1 ≤ d ∧ d ≤ 4000000000000000 := by
  simp only [fracOkB, Bool.and_eq_true, inB_iff] at h
  omega

/-- The logarithm's table value. -/
def lnI (k : Int) : Int := if inB k 1 9 then (k * 2302585 + 999) / 1000 else 0

/-- A thousand times a fraction, rounded down. -/
def thouI (n d : Int) : Int := if fracOkB n d && decide (n ≤ d) then n * 1000 / d else -1

end Go.Proofs.Ytjdncobdecdhmaa
