/-
  The law FnParts.
-/
import Derived.Test.YtohodehmidbmlaaDoorDrawA
import Derived.Test.YtohodehmidbmlaaDoorParts
import Derived.Test.YtohodehmidbmlaaDoorPartsP
namespace Go.Proofs.YtohodehmidbmlaaDoor
open Go.RowKit
set_option maxRecDepth 100000

theorem joinP_le {b : UInt8} {l m : List ByteArray} (h : 0 < l.length) : (joinP b l).length ≤ (joinP b (l ++ m)).length := by
  match l, h with
  | y :: t, _ => simp [joinP]
theorem joinP_take {b : UInt8} {l : List ByteArray} {k : Nat} (h0 : 0 < k) (hk : k < l.length) : joinP b (l.take (k + 1)) = joinP b (l.take k) ++ b :: (l[k]?.getD ByteArray.empty).data.toList := by
  have e : l.take (k + 1) = l.take k ++ [l[k]?.getD ByteArray.empty] := by
    rw [List.getElem?_eq_getElem hk, Option.getD_some, List.take_succ_eq_append_getElem hk]
  rw [e, joinP_snoc (by rw [List.length_take]; omega)]
theorem joinP_bound {b : UInt8} {l : List ByteArray} {k N : Nat} (h0 : 0 < k) (h : (joinP b l).length ≤ N) : (joinP b (l.take k)).length ≤ N := by
  rcases Nat.eq_zero_or_pos l.length with e | e
  · rw [List.length_eq_zero_iff] at e; subst e; simpa using h
  · refine Nat.le_trans (joinP_le (m := l.drop k) ?_) (by rwa [List.take_append_drop])
    rw [List.length_take]; omega
theorem joinP_mem {b : UInt8} {l : List ByteArray} {p : ByteArray} (h : p ∈ l) : p.size ≤ (joinP b l).length := by
  obtain ⟨s1, s2, rfl⟩ := List.append_of_mem h
  rw [show s1 ++ p :: s2 = (s1 ++ [p]) ++ s2 by simp]
  refine Nat.le_trans ?_ (joinP_le (by simp))
  have e : p.size = p.data.toList.length := rfl
  rcases s1 with _ | ⟨y, t⟩
  · simp [joinP]
  · rw [joinP_snoc (by simp), e]; simp only [List.length_append, List.length_cons]; omega
theorem big_any (A : Option Addr) (n c : Nat) (w : World) :
    Calls Tryd.prog 31 #[.slice A n c] w fun e w' => e = .returned (.bool (decide (1048576 < (n : Int)))) ∧ w' = w := by
  go_enter Tryd.func31, Tryd.ntmps31
  go_wp2
  go_ret
  exact ⟨rfl, rfl⟩

end Go.Proofs.YtohodehmidbmlaaDoor
