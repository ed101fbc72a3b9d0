/-
  Contracts: cuts at equal distances.
-/
import Derived.Test.YtjdncobdecdhmaaInts2
namespace Go.Proofs.Ytjdncobdecdhmaa
open Go.RowKit

def eqCutsOk (lo hi k : Int) : Bool := inB k 2 4 && (inB lo (-9999) 9998 && (inB hi (-9999) 9998 && decide (k ≤ hi - lo)))
def eqCutsTo (lo hi k : Int) (n : Nat) : List Int := (List.range n).map fun (i : Nat) => lo + (hi - lo) * ((i : Int) + 1) / k
/-- The cuts at equal distances. -/
def eqCuts (lo hi k : Int) : List Int := if eqCutsOk lo hi k then eqCutsTo lo hi k (k.toNat - 1) else []
theorem eqCutsTo_len (lo hi k : Int) (n : Nat) : (eqCutsTo lo hi k n).length = n := by simp [eqCutsTo]
theorem eqCutsTo_succ (lo hi k : Int) (n : Nat) : eqCutsTo lo hi k (n + 1) = eqCutsTo lo hi k n ++ [lo + (hi - lo) * ((n : Int) + 1) / k] := by simp [eqCutsTo, List.range_succ]
theorem eqCuts_num {lo hi k : Int} (h : eqCutsOk lo hi k = true) : (2 ≤ k ∧ k ≤ 4) ∧ (-9999 ≤ lo ∧ lo ≤ 9998) ∧ (-9999 ≤ hi ∧ hi ≤ 9998) ∧ k ≤ hi - lo := by
  simpa [eqCutsOk, inB_iff] using h
theorem eqCuts_bd {d i k : Int} (hd : 0 ≤ d) (hd2 : d ≤ 19997) (hi : 0 ≤ i) (hi2 : i ≤ 3) (hk : 2 ≤ k) : 0 ≤ d * i ∧ d * i ≤ 59991 ∧ 0 ≤ d * i / k ∧ d * i / k ≤ 59991 := by
  have h1 : 0 ≤ d * i := Int.mul_nonneg hd hi
  have h2 : d * i ≤ 19997 * 3 := Int.mul_le_mul hd2 hi2 hi (by omega)
  have h3 : 0 ≤ d * i / k := Int.ediv_nonneg h1 (by omega)
  have h4 : d * i / k ≤ d * i := Int.ediv_le_self k h1
  omega

theorem isCut_any (x : Int) (w : World) :
    Calls Try.prog 68 #[.int .i64 x] w fun e w' => e = .returned (.bool (inB x (-9999) 9998)) ∧ w = w' := by
  go_enter Try.func68, Try.ntmps68
  go_wp2_with (go_at_call 65; refine (within_any _ _ _ _).mono ?_; rintro e w' ⟨rfl, rfl⟩)
  go_ret
  exact ⟨rfl, rfl⟩

set_option maxHeartbeats 1000000 in
theorem implEqualCuts_any (lo hi k : Int) (w : World) :
    Calls Try.prog 37 #[.int .i64 lo, .int .i64 hi, .int .i64 k] w fun e w' => ∃ D n m, e = .returned (.slice D n m) ∧ OwnI w.heap.size w' (.slice D n m) (eqCuts lo hi k) ∧ n = (eqCuts lo hi k).length ∧ Below w.heap.size w w' := by
  by_cases h : eqCutsOk lo hi k = true
  · have hcuts := hide (show eqCuts lo hi k = eqCutsTo lo hi k (k.toNat - 1) by rw [eqCuts, if_pos h])
    obtain ⟨⟨a1, a2⟩, ⟨b1, b2⟩, ⟨c1, c2⟩, d1⟩ := eqCuts_num h
    have ha := inB_iff.2 ⟨a1, a2⟩
    have hb := inB_iff.2 ⟨b1, b2⟩
    have hc := inB_iff.2 ⟨c1, c2⟩
    clear h
    go_enter Try.func37, Try.ntmps37
    go_wp2_with (first | (go_at_call 65; refine (within_any _ _ _ _).mono ?_; rintro e w' ⟨rfl, rfl⟩) | (go_at_call 68; refine (isCut_any _ _).mono ?_; rintro e w' ⟨rfl, rfl⟩))
    have hown0 := own_empty w w.heap.size 3 1 (Nat.le_refl _)
    go_loopw [7, 8] (fun v i wr => ∃ j : Nat, 1 + (j : Int) ≤ k ∧ i = .int .i64 (1 + j) ∧ (∃ D m, v = .slice D j m) ∧ wr.ownsRow w.heap.size 3 1 v j ((eqCutsTo lo hi k j).map (Value.int .i64)) ∧ Below w.heap.size w wr) (fun _ i _ => (k - intOf i).toNat)
    case atStart => exact ⟨0, by omega, by simp, ⟨_, _, rfl⟩, hown0, (Below.refl _ _).alloc (Nat.le_refl _) _⟩
    case round =>
      clear hown0
      obtain ⟨j, hj, rfl, ⟨D, m, rfl⟩, hown, hbel⟩ := hrel
      have hsz := hbel.size
      by_cases hlt : 1 + (j : Int) < k
      · obtain ⟨e1, e2, e3, e4⟩ := eqCuts_bd (d := hi - lo) (i := 1 + j) (k := k) (by omega) (by omega) (by omega) (by omega) a1
        have hst := hide (show (eqCutsTo lo hi k (j + 1)).map (Value.int .i64) = (eqCutsTo lo hi k j).map (Value.int .i64) ++ [.int .i64 (lo + (hi - lo) * (1 + (j : Int)) / k)] by rw [eqCutsTo_succ, Int.add_comm 1]; simp)
        go_wp2_with (at_builtin; go_must (refine wpList_append_one wr rfl _ _ 28 rfl w.heap.size 3 (.int .i64 0) 1 8 Try.underlying28 infoI rfl (by decide) _ j _ [.int .i64 (lo + (hi - lo) * (1 + (j : Int)) / k)] rfl hown _ rfl rfl (by simp [Value.oneCell']) rfl (by unfold maxLen; omega) (by omega) hsz ?_); intro v' w1 hown1 hb1 _ _)
        go_roundw
        case rel => exact ⟨j + 1, by omega, by go_num, own_shape hown1, by rw [hst.out]; exact hown1, (hbel.trans hb1)⟩
        case measure => simp [intOf]; omega
      · obtain rfl : k = 1 + (j : Int) := by omega
        go_wp2
        go_ret
        have hj' : ((1 + (j : Int)).toNat - 1) = j := by omega
        refine ⟨_, _, _, rfl, ?_, ?_, hbel⟩
        · rw [hcuts.out, hj']
          show World.ownsRow _ _ _ _ _ _ _
          rw [eqCutsTo_len]
          exact hown
        · rw [hcuts.out, hj', eqCutsTo_len]
  · have hnil := hide (show eqCuts lo hi k = [] by rw [eqCuts, if_neg h])
    have hno : eqCutsOk lo hi k = false := by simpa using h
    clear h
    cases hk : inB k 2 4
    · clear hno
      go_enter Try.func37, Try.ntmps37
      go_wp2_with (first | (go_at_call 65; refine (within_any _ _ _ _).mono ?_; rintro e w' ⟨rfl, rfl⟩) | (go_at_call 68; refine (isCut_any _ _).mono ?_; rintro e w' ⟨rfl, rfl⟩))
      go_ret
      exact ⟨_, _, _, rfl, by rw [hnil.out]; exact World.ownsRow_nil _ _ _ _, by rw [hnil.out]; rfl, Below.refl _ _⟩
    · cases hlo : inB lo (-9999) 9998
      · clear hno
        go_enter Try.func37, Try.ntmps37
        go_wp2_with (first | (go_at_call 65; refine (within_any _ _ _ _).mono ?_; rintro e w' ⟨rfl, rfl⟩) | (go_at_call 68; refine (isCut_any _ _).mono ?_; rintro e w' ⟨rfl, rfl⟩))
        go_ret
        exact ⟨_, _, _, rfl, by rw [hnil.out]; exact World.ownsRow_nil _ _ _ _, by rw [hnil.out]; rfl, Below.refl _ _⟩
      · cases hhi : inB hi (-9999) 9998
        · clear hno
          go_enter Try.func37, Try.ntmps37
          go_wp2_with (first | (go_at_call 65; refine (within_any _ _ _ _).mono ?_; rintro e w' ⟨rfl, rfl⟩) | (go_at_call 68; refine (isCut_any _ _).mono ?_; rintro e w' ⟨rfl, rfl⟩))
          go_ret
          exact ⟨_, _, _, rfl, by rw [hnil.out]; exact World.ownsRow_nil _ _ _ _, by rw [hnil.out]; rfl, Below.refl _ _⟩
        · have hd : hi - lo < k := by simpa [eqCutsOk, hk, hlo, hhi] using hno
          obtain ⟨b1, b2⟩ := inB_iff.1 hlo
          obtain ⟨c1, c2⟩ := inB_iff.1 hhi
          clear hno
          go_enter Try.func37, Try.ntmps37
          go_wp2_with (first | (go_at_call 65; refine (within_any _ _ _ _).mono ?_; rintro e w' ⟨rfl, rfl⟩) | (go_at_call 68; refine (isCut_any _ _).mono ?_; rintro e w' ⟨rfl, rfl⟩))
          go_ret
          exact ⟨_, _, _, rfl, by rw [hnil.out]; exact World.ownsRow_nil _ _ _ _, by rw [hnil.out]; rfl, Below.refl _ _⟩

set_option maxHeartbeats 1000000 in
theorem specEqualCuts_any (lo hi k : Int) (w : World) :
    Calls Try.prog 38 #[.int .i64 lo, .int .i64 hi, .int .i64 k] w fun e w' => ∃ D n m, e = .returned (.slice D n m) ∧ OwnI w.heap.size w' (.slice D n m) (eqCuts lo hi k) ∧ n = (eqCuts lo hi k).length ∧ Below w.heap.size w w' := by
  by_cases h : eqCutsOk lo hi k = true
  · have hcuts := hide (show eqCuts lo hi k = eqCutsTo lo hi k (k.toNat - 1) by rw [eqCuts, if_pos h])
    obtain ⟨⟨a1, a2⟩, ⟨b1, b2⟩, ⟨c1, c2⟩, d1⟩ := eqCuts_num h
    have ha := inB_iff.2 ⟨a1, a2⟩
    have hb := inB_iff.2 ⟨b1, b2⟩
    have hc := inB_iff.2 ⟨c1, c2⟩
    clear h
    go_enter Try.func38, Try.ntmps38
    go_wp2_with (first | (go_at_call 64; refine (l1In_any _ _ _ _).mono ?_; rintro e w' ⟨rfl, rfl⟩))
    have hown0 := own_empty w w.heap.size 3 1 (Nat.le_refl _)
    go_loopw [7, 8] (fun v i wr => ∃ j : Nat, 1 + (j : Int) ≤ k ∧ i = .int .i64 (1 + j) ∧ (∃ D m, v = .slice D j m) ∧ wr.ownsRow w.heap.size 3 1 v j ((eqCutsTo lo hi k j).map (Value.int .i64)) ∧ Below w.heap.size w wr) (fun _ i _ => (k - intOf i).toNat)
    case atStart => exact ⟨0, by omega, by simp, ⟨_, _, rfl⟩, hown0, (Below.refl _ _).alloc (Nat.le_refl _) _⟩
    case round =>
      clear hown0
      obtain ⟨j, hj, rfl, ⟨D, m, rfl⟩, hown, hbel⟩ := hrel
      have hsz := hbel.size
      by_cases hlt : 1 + (j : Int) < k
      · obtain ⟨e1, e2, e3, e4⟩ := eqCuts_bd (d := hi - lo) (i := 1 + j) (k := k) (by omega) (by omega) (by omega) (by omega) a1
        have hst := hide (show (eqCutsTo lo hi k (j + 1)).map (Value.int .i64) = (eqCutsTo lo hi k j).map (Value.int .i64) ++ [.int .i64 (lo + (hi - lo) * (1 + (j : Int)) / k)] by rw [eqCutsTo_succ, Int.add_comm 1]; simp)
        go_wp2_with (at_builtin; go_must (refine wpList_append_one wr rfl _ _ 28 rfl w.heap.size 3 (.int .i64 0) 1 8 Try.underlying28 infoI rfl (by decide) _ j _ [.int .i64 (lo + (hi - lo) * (1 + (j : Int)) / k)] rfl hown _ rfl rfl (by simp [Value.oneCell']) rfl (by unfold maxLen; omega) (by omega) hsz ?_); intro v' w1 hown1 hb1 _ _)
        go_roundw
        case rel => exact ⟨j + 1, by omega, by go_num, own_shape hown1, by rw [hst.out]; exact hown1, (hbel.trans hb1)⟩
        case measure => simp [intOf]; omega
      · obtain rfl : k = 1 + (j : Int) := by omega
        go_wp2
        go_ret
        have hj' : ((1 + (j : Int)).toNat - 1) = j := by omega
        refine ⟨_, _, _, rfl, ?_, ?_, hbel⟩
        · rw [hcuts.out, hj']
          show World.ownsRow _ _ _ _ _ _ _
          rw [eqCutsTo_len]
          exact hown
        · rw [hcuts.out, hj', eqCutsTo_len]
  · have hnil := hide (show eqCuts lo hi k = [] by rw [eqCuts, if_neg h])
    have hno : eqCutsOk lo hi k = false := by simpa using h
    clear h
    cases hk : inB k 2 4
    · clear hno
      go_enter Try.func38, Try.ntmps38
      go_wp2_with (first | (go_at_call 64; refine (l1In_any _ _ _ _).mono ?_; rintro e w' ⟨rfl, rfl⟩))
      go_ret
      exact ⟨_, _, _, rfl, by rw [hnil.out]; exact own_empty _ _ _ _ (Nat.le_refl _), by rw [hnil.out]; rfl, (Below.refl _ _).alloc (Nat.le_refl _) _⟩
    · cases hlo : inB lo (-9999) 9998
      · clear hno
        go_enter Try.func38, Try.ntmps38
        go_wp2_with (first | (go_at_call 64; refine (l1In_any _ _ _ _).mono ?_; rintro e w' ⟨rfl, rfl⟩))
        go_ret
        exact ⟨_, _, _, rfl, by rw [hnil.out]; exact own_empty _ _ _ _ (Nat.le_refl _), by rw [hnil.out]; rfl, (Below.refl _ _).alloc (Nat.le_refl _) _⟩
      · cases hhi : inB hi (-9999) 9998
        · clear hno
          go_enter Try.func38, Try.ntmps38
          go_wp2_with (first | (go_at_call 64; refine (l1In_any _ _ _ _).mono ?_; rintro e w' ⟨rfl, rfl⟩))
          go_ret
          exact ⟨_, _, _, rfl, by rw [hnil.out]; exact own_empty _ _ _ _ (Nat.le_refl _), by rw [hnil.out]; rfl, (Below.refl _ _).alloc (Nat.le_refl _) _⟩
        · have hd : hi - lo < k := by simpa [eqCutsOk, hk, hlo, hhi] using hno
          obtain ⟨b1, b2⟩ := inB_iff.1 hlo
          obtain ⟨c1, c2⟩ := inB_iff.1 hhi
          clear hno
          go_enter Try.func38, Try.ntmps38
          go_wp2_with (first | (go_at_call 64; refine (l1In_any _ _ _ _).mono ?_; rintro e w' ⟨rfl, rfl⟩))
          go_ret
          exact ⟨_, _, _, rfl, by rw [hnil.out]; exact own_empty _ _ _ _ (Nat.le_refl _), by rw [hnil.out]; rfl, (Below.refl _ _).alloc (Nat.le_refl _) _⟩
end Go.Proofs.Ytjdncobdecdhmaa
