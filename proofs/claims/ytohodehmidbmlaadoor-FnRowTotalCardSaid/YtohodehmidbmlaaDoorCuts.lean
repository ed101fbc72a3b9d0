/-
  Contracts: cuts at equal distances.
-/
import Derived.Test.YtohodehmidbmlaaDoorInts2
namespace Go.Proofs.YtohodehmidbmlaaDoor
open Go.RowKit

def eqCutsOk (lo hi k : Int) : Bool := inB k 2 4 && (inB lo (-9999) 9998 && (inB hi (-9999) 9998 && decide (k ≤ hi - lo)))
def eqCutsTo (lo hi k : Int) (n : Nat) : List Int := (List.range n).map fun (i : Nat) => lo + (hi - lo) * ((i : Int) + 1) / k
/-- The cuts at equal distances. -/
def eqCuts (lo hi k : Int) : List Int := if eqCutsOk lo hi k then eqCutsTo lo hi k (k.toNat - 1) else []
theorem eqCutsTo_len (lo hi k : Int) (n : Nat) : (eqCutsTo lo hi k n).length = n := by simp [eqCutsTo]
theorem eqCutsTo_succ (lo hi k : Int) (n : Nat) : eqCutsTo lo hi k (n + 1) = eqCutsTo lo hi k n ++ [lo + (hi - lo) * ((n : Int) + 1) / k] := by simp [eqCutsTo, List.range_succ]
theorem eqCuts_num {lo hi k : Int} (h : eqCutsOk lo hi k = true) : (2 ≤ k ∧ k ≤ 4) ∧ (-9999 ≤ lo ∧ lo ≤ 9998) ∧ (-9999 ≤ hi ∧ hi ≤ 9998) ∧ k ≤ hi - lo := by
  simpa [eqCutsOk, inB_iff] using h
theorem eqCuts_bd {d i k : Int} (hd : 0 ≤ d) (hd2 : d ≤ 19997) (hi : 0 ≤ i) (hi2 : i ≤ 3) (hk : 2 ≤ k) : 0 ≤ d * i ∧ d * i ≤ 59991 ∧ 0 ≤ d * i / k ∧ d * i / k ≤ 59991 := by
  have h1 : 0 ≤ d * i := Int.mul_nonneg hd hi
  have h2 : d * i ≤ 19997 * 3 := Int.mul_le_mul hd2 hi2 hi (by omega)
  have h3 : 0 ≤ d * i / k := Int.ediv_nonneg h1 (by omega)
  have h4 : d * i / k ≤ d * i := Int.ediv_le_self k h1
  omega

theorem isCut_any (x : Int) (w : World) :
    Calls Tryd.prog 157 #[.int .i64 x] w fun e w' => e = .returned (.bool (inB x (-9999) 9998)) ∧ w = w' := by
  go_enter Tryd.func157, Tryd.ntmps157
  go_wp2_with (go_at_call 103; refine (within_any _ _ _ _).mono ?_; rintro e w' ⟨rfl, rfl⟩)
  go_ret
  exact ⟨rfl, rfl⟩

end Go.Proofs.YtohodehmidbmlaaDoor
