/-
  Contracts: decimal numerals.
-/
import Derived.Test.YtohodehmidbmlaaDoorDoor
import Derived.Test.YtohodehmidbmlaaDoorScal
import Derived.Test.YtohodehmidbmlaaDoorLayItoa
import Derived.Lib.ItoaLen
namespace Go.Proofs.YtohodehmidbmlaaDoor
open Go.RowKit
set_option maxRecDepth 100000

/-- The numeral of n. -/
def numB (n : Int) : ByteArray := ⟨(Lib.itoa n).toArray⟩
theorem below_grow_drew (w : World) (k : Nat) (os : Array Obj) : Below w.heap.size w (Sort.grow (w.drewN k) os) := ⟨rfl, rfl, rfl, by simp, fun j hj => Sort.heap_grow_old _ _ hj⟩

theorem itoa_any (n : Int) (h0 : -9223372036854775808 ≤ n) (h1 : n ≤ 9223372036854775807) (w : World) (ht : TabW w) :
    Calls Tryd.prog 108 #[.int .i64 n] w fun e w' => e = .returned (.string (numB n)) ∧ Below w.heap.size w w' := by
  have h : Calls Tryd.prog 108 #[.int .i64 n] w _ := Any.strconv_Itoa Tryd.laysItoa n h0 h1 w ht
  exact h.mono fun e w' ⟨he, k, os, hw⟩ => ⟨he, by rw [hw]; exact below_grow_drew _ _ _⟩

theorem implDigits_any (n : Int) (h0 : -9223372036854775808 ≤ n) (h1 : n ≤ 9223372036854775807) (w : World) (ht : TabW w) :
    Calls Tryd.prog 39 #[.int .i64 n] w fun e w' => e = .returned (.string (numB n)) ∧ Below w.heap.size w w' := by
  have HT := hide ht
  clear ht
  go_enter Tryd.func39, Tryd.ntmps39
  go_wp2_with (fail)
  refine (itoa_any n h0 h1 _ HT.out).mono ?_
  rintro e w1 ⟨rfl, hb⟩
  go_wp2
  go_ret
  exact ⟨rfl, hb⟩

/-- The numeral of u behind what was read off: d the digits that are read, r the rest. -/
def digTo (u : Nat) (r : Nat) (d : List UInt8) : Prop := if r = 0 then d = Lib.decDigits u ∧ 0 < u else Lib.decDigits u = Lib.decDigits r ++ d
theorem decDigits_step {u : Nat} (h : ¬ u < 10) : Lib.decDigits u = Lib.decDigits (u / 10) ++ [UInt8.ofNat (48 + u % 10)] := by
  conv => lhs; rw [Lib.decDigits, dif_neg h]
theorem digTo_start {u : Nat} (h : 0 < u) : digTo u u [] := by rw [digTo, if_neg (by omega)]; simp
theorem digTo_step {u r : Nat} {d : List UInt8} (hr : 0 < r) (h : digTo u r d) (hu : 0 < u) : digTo u (r / 10) (UInt8.ofNat (48 + r % 10) :: d) := by
  rw [digTo, if_neg (by omega)] at h
  by_cases hs : r < 10
  · have e : r / 10 = 0 := by omega
    rw [digTo, if_pos e]
    rw [Lib.decDigits_one hs] at h
    have e2 : r % 10 = r := by omega
    rw [e2, h]
    exact ⟨rfl, hu⟩
  · rw [digTo, if_neg (by omega), h, decDigits_step hs, List.append_assoc]
    rfl
end Go.Proofs.YtohodehmidbmlaaDoor
