/-
  Contracts: decimal numerals, the reference's side.
-/
import Derived.Test.YtohodehmidbmlaaDoorDigits
import Derived.Test.YtohodehmidbmlaaDoorMark
namespace Go.Proofs.YtohodehmidbmlaaDoor
open Go.RowKit
set_option maxRecDepth 100000

theorem pow_start {u : Nat} (h : u ≤ 9223372036854775808) : u < 10 ^ (20 - (⟨#[]⟩ : ByteArray).size) := by
  show u < 10 ^ 20
  have : (10 : Nat) ^ 20 = 100000000000000000000 := by decide
  omega
theorem pow_step {j s : Nat} (h : j < 10 ^ (20 - s)) (hj : 0 < j) : s < 20 ∧ j / 10 < 10 ^ (20 - (s + 1)) := by
  have hs : s < 20 := by
    rcases Nat.lt_or_ge s 20 with h' | h'
    · exact h'
    · rw [show 20 - s = 0 by omega] at h; simp at h; omega
  refine ⟨hs, ?_⟩
  rw [show 20 - s = 20 - (s + 1) + 1 by omega, Nat.pow_succ] at h
  exact Nat.div_lt_of_lt_mul (by rw [Nat.mul_comm]; exact h)
theorem neg_mod (j : Nat) : (-(j : Int)).tmod 10 = -((j % 10 : Nat) : Int) := by rw [Int.neg_tmod]; rfl
theorem neg_div (j : Nat) : (-(j : Int)).tdiv 10 = -((j / 10 : Nat) : Int) := by rw [Int.neg_tdiv]; rfl
theorem digTo_end {u : Nat} {S : ByteArray} (h : digTo u 0 S.data.toList) : S.data.toList = Lib.decDigits u := by
  rw [digTo, if_pos rfl] at h
  exact h.1
theorem numB_pos {u : Nat} {S : ByteArray} (h : S.data.toList = Lib.decDigits u) : numB u = S := by
  apply ByteArray.ext
  apply Array.toList_inj.1
  rw [numB, Lib.itoa_nonneg, ← h]
theorem numB_neg {u : Nat} {S : ByteArray} (hu : 1 ≤ u) (h : S.data.toList = Lib.decDigits u) : numB (-(u : Int)) = ⟨#[45]⟩ ++ S := by
  apply ByteArray.ext
  apply Array.toList_inj.1
  rw [append_one, h, numB, Lib.itoa_neg u hu]
theorem dig_rel {u j : Nat} {S : ByteArray} (hu : 0 < u) (hj : 0 < j) (h : digTo u j S.data.toList) {T : ByteArray} (hT : T.data.toList = UInt8.ofNat (48 + j % 10) :: S.data.toList) : digTo u (j / 10) T.data.toList := by
  rw [hT]; exact digTo_step hj h hu

set_option maxHeartbeats 1000000 in
theorem specDigits_any (n : Int) (h0 : -9223372036854775808 ≤ n) (h1 : n ≤ 9223372036854775807) (w : World) :
    Calls Tryd.prog 38 #[.int .i64 n] w fun e w' => e = .returned (.string (numB n)) ∧ Below w.heap.size w w' := by
  rcases (show n = 0 ∨ 0 < n ∨ n < 0 by omega) with rfl | hp | hp
  · go_enter Tryd.func38, Tryd.ntmps38
    go_wp2
    go_ret
    exact ⟨by rw [show numB 0 = ⟨#[48]⟩ from numB_pos (u := 0) (by rw [Lib.decDigits_one (by omega)]; rfl)]; rfl, Below.refl _ _⟩
  · obtain ⟨u, rfl⟩ : ∃ u : Nat, n = (u : Int) := ⟨n.natAbs, by omega⟩
    have hu : 0 < u := by omega
    have hne : (((u : Int)) == 0) = false := beq_eq_false_iff_ne.2 (by omega)
    clear hp
    go_enter Tryd.func38, Tryd.ntmps38
    go_wp2
    clear hne
    go_loopw [0, 4] (fun v s wr => ∃ (j : Nat) (S : ByteArray), v = .int .i64 ((j : Int)) ∧ s = .string S ∧ j ≤ u ∧ S.size ≤ 20 ∧ Hid (j < 10 ^ (20 - S.size)) ∧ Hid (digTo u j S.data.toList) ∧ Below w.heap.size w wr) (fun v _ _ => (intOf v).natAbs)
    case atStart => exact ⟨u, ⟨#[]⟩, rfl, rfl, Nat.le_refl _, Nat.zero_le _, pow_start (by omega), digTo_start hu, Below.refl _ _⟩
    case round =>
      obtain ⟨j, S, rfl, rfl, hju, hS0, hj, hd, hbel⟩ := hrel
      by_cases hpj : 0 < j
      · obtain ⟨hS, hP⟩ := pow_step hj.out hpj
        have hP := hide hP
        have hm : (j : Int) % 10 < 10 := Int.emod_lt_of_pos _ (by omega)
        have hm0 : 0 ≤ (j : Int) % 10 := Int.emod_nonneg _ (by omega)
        have hcv := fun wx => conv_one wx (48 + (j : Int) % 10) (by omega) (by omega)
        have hnz : (((j : Int)) != 0) = true := by simp; omega
        go_wp2
        all_goals
          go_roundw
          case rel =>
            refine ⟨j / 10, ⟨#[48 + UInt8.ofNat (j % 10)]⟩ ++ S, by rw [Int.natCast_ediv]; rfl, rfl, by omega, ?_, ?_, ?_, hbel.alloc hbel.size _⟩
            · rw [ByteArray.size_append]
              show 1 + S.size ≤ 20
              omega
            · rw [ByteArray.size_append]
              show j / 10 < 10 ^ (20 - (1 + S.size))
              rw [Nat.add_comm 1]
              exact hP.out
            · refine dig_rel hu hpj hd.out ?_
              rw [append_one]
              congr 1
              apply UInt8.toNat_inj.1
              simp
          case measure => simp only [intOf]; omega
      · obtain rfl : j = 0 := by omega
        have e0 : (-((0 : Nat) : Int)) = 0 := rfl
        have hd0 := hide (numB_pos (digTo_end hd.out))
        go_wp2
        go_ret
        exact ⟨by rw [hd0.out]; rfl, hbel⟩
  · obtain ⟨u, rfl⟩ : ∃ u : Nat, n = -(u : Int) := ⟨n.natAbs, by omega⟩
    have hu : 0 < u := by omega
    have hne : ((-(u : Int)) == 0) = false := beq_eq_false_iff_ne.2 (by omega)
    clear hp
    go_enter Tryd.func38, Tryd.ntmps38
    go_wp2
    clear hne
    go_loopw [0, 4] (fun v s wr => ∃ (j : Nat) (S : ByteArray), v = .int .i64 (-(j : Int)) ∧ s = .string S ∧ j ≤ u ∧ S.size ≤ 20 ∧ Hid (j < 10 ^ (20 - S.size)) ∧ Hid (digTo u j S.data.toList) ∧ Below w.heap.size w wr) (fun v _ _ => (intOf v).natAbs)
    case atStart => exact ⟨u, ⟨#[]⟩, rfl, rfl, Nat.le_refl _, Nat.zero_le _, pow_start (by omega), digTo_start hu, Below.refl _ _⟩
    case round =>
      obtain ⟨j, S, rfl, rfl, hju, hS0, hj, hd, hbel⟩ := hrel
      by_cases hpj : 0 < j
      · obtain ⟨hS, hP⟩ := pow_step hj.out hpj
        have hP := hide hP
        have hnz : ((-(j : Int)) != 0) = true := by simp; omega
        have hdiv := neg_div j
        have hj0 : -9223372036854775808 ≤ -(j : Int) := by omega
        by_cases hz : j % 10 = 0
        · have hmod : (-(j : Int)).tmod 10 = 0 := by rw [neg_mod, hz]; rfl
          have hcv := fun wx => conv_one wx 48 (by omega) (by omega)
          have hz' := hide hz
          clear hz
          go_wp2
          go_roundw
          case rel =>
            refine ⟨j / 10, ⟨#[48]⟩ ++ S, rfl, rfl, by omega, ?_, ?_, ?_, hbel.alloc hbel.size _⟩
            · rw [ByteArray.size_append]
              show 1 + S.size ≤ 20
              omega
            · rw [ByteArray.size_append]
              show j / 10 < 10 ^ (20 - (1 + S.size))
              rw [Nat.add_comm 1]
              exact hP.out
            · refine dig_rel hu hpj hd.out ?_
              rw [append_one, hz'.out]
              rfl
          case measure => simp only [intOf]; omega
        · have hmod : (-(j : Int)).tmod 10 = -((j : Int) % 10) := by rw [neg_mod]; omega
          have hm : (j : Int) % 10 < 10 := Int.emod_lt_of_pos _ (by omega)
          have hm0 : 0 < (j : Int) % 10 := by omega
          have hcv := fun wx => conv_one wx (48 + (j : Int) % 10) (by omega) (by omega)
          clear hz
          go_wp2
          go_roundw
          case rel =>
            refine ⟨j / 10, ⟨#[48 + UInt8.ofNat (j % 10)]⟩ ++ S, rfl, rfl, by omega, ?_, ?_, ?_, hbel.alloc hbel.size _⟩
            · rw [ByteArray.size_append]
              show 1 + S.size ≤ 20
              omega
            · rw [ByteArray.size_append]
              show j / 10 < 10 ^ (20 - (1 + S.size))
              rw [Nat.add_comm 1]
              exact hP.out
            · refine dig_rel hu hpj hd.out ?_
              rw [append_one]
              congr 1
              apply UInt8.toNat_inj.1
              simp
          case measure => simp only [intOf]; omega
      · obtain rfl : j = 0 := by omega
        have e0 : (-((0 : Nat) : Int)) = 0 := rfl
        have hd0 := hide (numB_neg hu (digTo_end hd.out))
        go_wp2
        go_ret
        exact ⟨by rw [hd0.out]; rfl, hbel⟩
end Go.Proofs.YtohodehmidbmlaaDoor
