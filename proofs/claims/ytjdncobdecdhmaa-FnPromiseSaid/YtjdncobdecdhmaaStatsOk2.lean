/-
  Contracts: right statistics, the program.
-/
import Derived.Test.YtjdncobdecdhmaaStatsOk
namespace Go.Proofs.Ytjdncobdecdhmaa
open Go.RowKit
set_option maxRecDepth 100000

theorem weights1_any (x : Int) (w : World) : Calls Try.prog 112 #[.int .i64 x] w fun e w' => e = .returned (.bool (!wt x)) ∧ w = w' := by
  go_enter Try.func112, Try.ntmps112
  go_wp2_with (go_at_call 65; refine (within_any _ _ _ _).mono ?_; rintro e w' ⟨rfl, rfl⟩)
  go_ret
  exact ⟨rfl, rfl⟩
theorem any_not_wt {l : List Int} : (l.any fun x => !wt x) = !l.all wt := by
  induction l with
  | nil => rfl
  | cons x l ih => simp only [List.any_cons, List.all_cons, ih, Bool.not_and]
def weightsB (n : Nat) (l : List Int) (x : Int) : Bool := decide ((n : Int) = x) && l.all wt
theorem weights_any (A : Option Addr) (n c : Nat) (l : List Int) (x : Int) (w : World) (hl : Ints w A n l) (hn : n ≤ 2097152) :
    Calls Try.prog 91 #[.slice A n c, .int .i64 x] w fun e w' => e = .returned (.bool (weightsB n l x)) ∧ w = w' := by
  have HL := hide hl
  clear hl
  by_cases h : (n : Int) = x
  · have he : ((n : Int) == x) = true := by simpa using h
    have hfin := hide (show weightsB n l x = l.all wt by rw [weightsB, decide_eq_true h]; rfl)
    clear h
    go_enter Try.func91, Try.ntmps91
    go_wp2_with (fail)
    refine (containsFunc_any _ (fun x => !wt x) Try.call112 weights1_any A n c l w HL.out hn).mono ?_
    rintro e w' ⟨rfl, rfl⟩
    rw [any_not_wt]
    go_wp2
    go_ret
    exact ⟨ret_bool (by rw [hfin.out]), rfl⟩
  · have he : ((n : Int) == x) = false := by simpa using h
    have hfin := hide (show weightsB n l x = false by rw [weightsB, decide_eq_false h]; rfl)
    clear h
    go_enter Try.func91, Try.ntmps91
    go_wp2
    go_ret
    exact ⟨ret_bool hfin.out.symm, rfl⟩

set_option maxHeartbeats 1000000 in
theorem total_any (A : Option Addr) (n c : Nat) (l : List Int) (w : World) (hl : Ints w A n l) (hn : n ≤ 2097152) (hw : l.all wt = true) :
    Calls Try.prog 71 #[.slice A n c] w fun e w' => e = .returned (.int .i64 l.sum) ∧ w = w' := by
  have HL := hide hl
  have HW := hide hw
  clear hl hw
  go_enter Try.func71, Try.ntmps71
  go_wp2
  go_loop [3, 8] (fun v i => ∃ (K : Nat) (S : Int), K ≤ n ∧ i = .int .i64 K ∧ v = .int .i64 S ∧ 0 ≤ S ∧ S ≤ 999 * K ∧ Hid (S = (l.take K).sum)) (fun _ i => n - (intOf i).toNat)
  case atStart => exact ⟨0, 0, Nat.zero_le _, rfl, rfl, by omega, by omega, show _ = _ by simp⟩
  case round =>
    obtain ⟨K, S, hk, rfl, rfl, hS0, hS1, hSs⟩ := hrel
    by_cases hlt : K < n
    · obtain ⟨ad, rfl, _, hcell⟩ := HL.out.at_ hlt
      have hkl := hide (show K < l.length by have := HL.out.1; omega)
      have hb : 0 ≤ l[K]?.getD 0 ∧ l[K]?.getD 0 ≤ 999 := by
        have h := HW.out
        rw [List.all_eq_true] at h
        rw [List.getElem?_eq_getElem hkl.out, Option.getD_some]
        exact inB_iff.1 (h _ (List.getElem_mem _))
      obtain ⟨hx0, hx1⟩ := hb
      have hSs' := hide (show S + l[K]?.getD 0 = (l.take (K + 1)).sum by rw [sum_take_int hkl.out, ← hSs.out])
      go_wp2
      go_round
      case rel => exact ⟨K + 1, S + l[K]?.getD 0, by omega, by go_num, rfl, by omega, by omega, hSs'⟩
      case measure => simp [intOf]; omega
    · obtain rfl : n = K := by omega
      have hf := hide (show S = l.sum by have := hSs.out; rwa [List.take_of_length_le (by have := HL.out.1; omega)] at this)
      go_wp2
      go_ret
      exact ⟨ret_int hf.out, rfl⟩

theorem zeros_any (n : Nat) (w : World) (hn : n ≤ 1048576) :
    Calls Try.prog 55 #[.int .i64 n] w fun e w' => e = .returned (.slice (some ⟨w.heap.size, 0, none⟩) n n) ∧ w'.ownsRow w.heap.size 3 1 (.slice (some ⟨w.heap.size, 0, none⟩) n n) n ((List.replicate n (0 : Int)).map (Value.int .i64)) ∧ Below w.heap.size w w' := by
  obtain ⟨i0, hi0, hz0, hz1, hz2⟩ := info_parts infoI
  go_enter Try.func55, Try.ntmps55
  go_wp2_with (at_make; refine wpList_make_full _ rfl _ _ 28 rfl w.heap.size 3 i0 (.int .i64 0) 1 Try.underlying28 hi0 hz0 hz1 _ _ _ _ n rfl rfl rfl rfl (by rw [hz2]; omega) (by unfold maxLen; omega) (Nat.le_refl _) ?_; intro w1 hown1 hg1)
  have hown : w1.ownsRow w.heap.size 3 1 (.slice (some ⟨w.heap.size, 0, none⟩) n n) n ((List.replicate n (0 : Int)).map (Value.int .i64)) := by
    have h := hown1
    simp only [Value.cells, Nat.mul_one] at h
    rw [toList_madeCells_one] at h
    rw [List.map_replicate]
    exact h
  have hb1 : Below w.heap.size w w1 := (Below.refl _ _).grown hg1 (Nat.le_refl _) (by simp)
  clear hown1 hg1 hi0 hz0 hz1 hz2
  go_ret
  exact ⟨rfl, hown, hb1⟩

/-- The running sums. -/
def sumsL (l : List Int) (c K : Nat) : List Int := (List.range c).map fun k => pSum l c k K
theorem sumsL_zero (l : List Int) (c : Nat) : sumsL l c 0 = List.replicate c 0 := by
  unfold sumsL
  rw [List.eq_replicate_iff]
  exact ⟨by simp, fun b hb => by obtain ⟨k, _, rfl⟩ := List.mem_map.1 hb; rfl⟩
theorem sumsL_at {l : List Int} {c K R : Nat} (hR : R < c) : ((sumsL l c K).map (Value.int .i64))[R]? = some (.int .i64 (pSum l c R K)) := by
  unfold sumsL; simp [hR]
theorem sumsL_step {l : List Int} {c K : Nat} : (((sumsL l c K).map (Value.int .i64)).set (K % c) (.int .i64 (pSum l c (K % c) K + l[K]?.getD 0))) = (sumsL l c (K + 1)).map (Value.int .i64) := by
  apply List.ext_getElem?
  intro j
  rcases Nat.lt_or_ge j c with hj | hj
  · rw [sumsL_at hj]
    by_cases e : K % c = j
    · subst e
      rw [List.getElem?_set_self (by simp [sumsL]; omega), pSum, if_pos rfl]
    · rw [List.getElem?_set_ne e, sumsL_at hj, pSum, if_neg e, Int.add_zero]
  · rw [List.getElem?_eq_none (by simp [sumsL]; omega), List.getElem?_eq_none (by simp [sumsL]; omega)]
end Go.Proofs.Ytjdncobdecdhmaa
