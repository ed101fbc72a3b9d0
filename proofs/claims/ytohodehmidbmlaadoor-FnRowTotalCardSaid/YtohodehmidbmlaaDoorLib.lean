/-
  Contracts of the library's functions on slices: equal, found, the greatest, copied.
-/
import Derived.Test.YtohodehmidbmlaaDoorStrs
import Derived.Test.YtohodehmidbmlaaDoorInts2
namespace Go.Proofs.YtohodehmidbmlaaDoor
open Go.RowKit

set_option maxHeartbeats 400000 in
theorem sameInts_any (A B : Option Addr) (n m c d : Nat) (l r : List Int) (w : World) (hl : Ints w A n l) (hr : Ints w B m r) (hn : n ≤ 2097152) (hm : m ≤ 2097152) :
    Calls Tryd.prog 123 #[.slice A n c, .slice B m d] w fun e w' => e = .returned (.bool (decide (l = r))) ∧ ∃ q, w' = w.drewN q := by
  have HL := hide hl
  have HR := hide hr
  clear hl hr
  by_cases hnm : n = m
  · subst hnm
    go_enter Tryd.func123, Tryd.ntmps123
    go_wp2
    go_loopw [5] (fun i wr => ∃ k : Nat, k ≤ n ∧ i = .int .i64 k ∧ l.take k = r.take k ∧ ∃ q, wr = w.drewN q) (fun i _ => n - (intOf i).toNat)
    case atStart => exact ⟨0, Nat.zero_le _, rfl, by simp, 0, rfl⟩
    case round =>
      obtain ⟨k, hk, rfl, htk, q, rfl⟩ := hrel
      have HT := hide htk
      clear htk
      by_cases hlt : k < n
      · obtain ⟨a1, rfl, _, hc1⟩ := (HL.out).at_ hlt
        obtain ⟨a2, rfl, _, hc2⟩ := (HR.out).at_ hlt
        by_cases he : l[k]?.getD 0 = r[k]?.getD 0
        · have HS := hide (take_eq_step 0 (by have := HL.out.1; omega) (by have := HR.out.1; omega) HT.out he)
          have HE : ((l[k]?.getD 0) == (r[k]?.getD 0)) = true := beq_iff_eq.2 he
          have HE' : ((l[k]?.getD 0) != (r[k]?.getD 0)) = false := by simp [he]
          clear he
          go_wp2
          go_quiet (fail)
          go_wp2
          go_roundw
          case rel => exact ⟨k + 1, by omega, by go_num, HS.out, _, rfl⟩
          case measure => simp [intOf]; omega
        · have HS := hide (take_ne_step 0 he)
          have HE' : ((l[k]?.getD 0) != (r[k]?.getD 0)) = true := by simp [he]
          clear he
          go_wp2
          go_quiet (fail)
          go_wp2
          go_ret
          exact ⟨ret_bool (by simp [HS.out]), _, World.drewN_drewN _ _ _⟩
      · have HS := hide (show l = r by
          have h := HT.out
          rwa [List.take_of_length_le (by have := HL.out.1; omega), List.take_of_length_le (by have := HR.out.1; omega)] at h)
        go_wp2
        go_ret
        exact ⟨ret_bool (by simp [HS.out]), _, rfl⟩
  · have HS := hide (show ¬ l = r by
      rintro rfl
      exact hnm (by have := HL.out.1; have := HR.out.1; omega))
    have hne : ((n : Int) != (m : Int)) = true := by rw [bne_iff_ne]; omega
    clear hnm
    go_enter Tryd.func123, Tryd.ntmps123
    go_wp2
    go_ret
    exact ⟨ret_bool (by simp [HS.out]), 0, rfl⟩

theorem sameInts_b (A B : Option Addr) (n m c d : Nat) (l r : List Int) (w : World) (hl : Ints w A n l) (hr : Ints w B m r) (hn : n ≤ 2097152) (hm : m ≤ 2097152) :
    Calls Tryd.prog 123 #[.slice A n c, .slice B m d] w fun e w' => e = .returned (.bool (decide (l = r))) ∧ Below w.heap.size w w' :=
  (sameInts_any A B n m c d l r w hl hr hn hm).mono fun _ _ ⟨he, q, hw⟩ => ⟨he, by subst hw; exact below_drewN (Below.refl _ _) _⟩

set_option maxHeartbeats 400000 in
theorem equalInts_any (A B : Option Addr) (n m c d : Nat) (l r : List Int) (w : World) (hl : Ints w A n l) (hr : Ints w B m r) (hn : n ≤ 2097152) (hm : m ≤ 2097152) :
    Calls Tryd.prog 124 #[.slice A n c, .slice B m d] w fun e w' => e = .returned (.bool (decide (l = r))) ∧ ∃ q, w' = w.drewN q := by
  have HL := hide hl
  have HR := hide hr
  clear hl hr
  by_cases hnm : n = m
  · subst hnm
    go_enter Tryd.func124, Tryd.ntmps124
    go_wp2
    go_loopw [13] (fun i wr => ∃ k : Nat, k ≤ n ∧ i = .int .i64 k ∧ l.take k = r.take k ∧ ∃ q, wr = w.drewN q) (fun i _ => n - (intOf i).toNat)
    case atStart => exact ⟨0, Nat.zero_le _, rfl, by simp, 0, rfl⟩
    case round =>
      obtain ⟨k, hk, rfl, htk, q, rfl⟩ := hrel
      have HT := hide htk
      clear htk
      by_cases hlt : k < n
      · obtain ⟨a1, rfl, _, hc1⟩ := (HL.out).at_ hlt
        obtain ⟨a2, rfl, _, hc2⟩ := (HR.out).at_ hlt
        by_cases he : l[k]?.getD 0 = r[k]?.getD 0
        · have HS := hide (take_eq_step 0 (by have := HL.out.1; omega) (by have := HR.out.1; omega) HT.out he)
          have HE : ((l[k]?.getD 0) == (r[k]?.getD 0)) = true := beq_iff_eq.2 he
          have HE' : ((l[k]?.getD 0) != (r[k]?.getD 0)) = false := by simp [he]
          clear he
          go_wp2
          go_quiet (fail)
          go_wp2
          go_roundw
          case rel => exact ⟨k + 1, by omega, by go_num, HS.out, _, rfl⟩
          case measure => simp [intOf]; omega
        · have HS := hide (take_ne_step 0 he)
          have HE' : ((l[k]?.getD 0) != (r[k]?.getD 0)) = true := by simp [he]
          clear he
          go_wp2
          go_quiet (fail)
          go_wp2
          go_ret
          exact ⟨ret_bool (by simp [HS.out]), _, World.drewN_drewN _ _ _⟩
      · have HS := hide (show l = r by
          have h := HT.out
          rwa [List.take_of_length_le (by have := HL.out.1; omega), List.take_of_length_le (by have := HR.out.1; omega)] at h)
        go_wp2
        go_ret
        exact ⟨ret_bool (by simp [HS.out]), _, rfl⟩
  · have HS := hide (show ¬ l = r by
      rintro rfl
      exact hnm (by have := HL.out.1; have := HR.out.1; omega))
    have hne : ((n : Int) != (m : Int)) = true := by rw [bne_iff_ne]; omega
    clear hnm
    go_enter Tryd.func124, Tryd.ntmps124
    go_wp2
    go_ret
    exact ⟨ret_bool (by simp [HS.out]), 0, rfl⟩

theorem equalInts_b (A B : Option Addr) (n m c d : Nat) (l r : List Int) (w : World) (hl : Ints w A n l) (hr : Ints w B m r) (hn : n ≤ 2097152) (hm : m ≤ 2097152) :
    Calls Tryd.prog 124 #[.slice A n c, .slice B m d] w fun e w' => e = .returned (.bool (decide (l = r))) ∧ Below w.heap.size w w' :=
  (equalInts_any A B n m c d l r w hl hr hn hm).mono fun _ _ ⟨he, q, hw⟩ => ⟨he, by subst hw; exact below_drewN (Below.refl _ _) _⟩

set_option maxHeartbeats 400000 in
theorem sameTexts_any (A B : Option Addr) (n m c d : Nat) (l r : List ByteArray) (w : World) (hl : Strs w A n l) (hr : Strs w B m r) (hn : n ≤ 2097152) (hm : m ≤ 2097152) :
    Calls Tryd.prog 127 #[.slice A n c, .slice B m d] w fun e w' => e = .returned (.bool (decide (l = r))) ∧ ∃ q, w' = w.drewN q := by
  have HL := hide hl
  have HR := hide hr
  clear hl hr
  by_cases hnm : n = m
  · subst hnm
    go_enter Tryd.func127, Tryd.ntmps127
    go_wp2
    go_loopw [5] (fun i wr => ∃ k : Nat, k ≤ n ∧ i = .int .i64 k ∧ l.take k = r.take k ∧ ∃ q, wr = w.drewN q) (fun i _ => n - (intOf i).toNat)
    case atStart => exact ⟨0, Nat.zero_le _, rfl, by simp, 0, rfl⟩
    case round =>
      obtain ⟨k, hk, rfl, htk, q, rfl⟩ := hrel
      have HT := hide htk
      clear htk
      by_cases hlt : k < n
      · obtain ⟨a1, rfl, _, hc1⟩ := (HL.out).at_ hlt
        obtain ⟨a2, rfl, _, hc2⟩ := (HR.out).at_ hlt
        by_cases he : l[k]?.getD ByteArray.empty = r[k]?.getD ByteArray.empty
        · have HS := hide (take_eq_step ByteArray.empty (by have := HL.out.1; omega) (by have := HR.out.1; omega) HT.out he)
          have HE : ((l[k]?.getD ByteArray.empty).toList == (r[k]?.getD ByteArray.empty).toList) = true := by rw [he]; exact beq_self_eq_true _
          have HE' : ((l[k]?.getD ByteArray.empty).toList != (r[k]?.getD ByteArray.empty).toList) = false := by rw [he]; simp
          clear he
          go_wp2
          go_quiet (fail)
          go_wp2
          go_roundw
          case rel => exact ⟨k + 1, by omega, by go_num, HS.out, _, rfl⟩
          case measure => simp [intOf]; omega
        · have HS := hide (take_ne_step ByteArray.empty he)
          have HE' : ((l[k]?.getD ByteArray.empty).toList == (r[k]?.getD ByteArray.empty).toList) = false := by rw [beq_eq_false_iff_ne]; intro h; exact he (toList_inj h)
          clear he
          go_wp2
          go_quiet (fail)
          go_wp2
          go_ret
          exact ⟨ret_bool (by simp [HS.out]), _, World.drewN_drewN _ _ _⟩
      · have HS := hide (show l = r by
          have h := HT.out
          rwa [List.take_of_length_le (by have := HL.out.1; omega), List.take_of_length_le (by have := HR.out.1; omega)] at h)
        go_wp2
        go_ret
        exact ⟨ret_bool (by simp [HS.out]), _, rfl⟩
  · have HS := hide (show ¬ l = r by
      rintro rfl
      exact hnm (by have := HL.out.1; have := HR.out.1; omega))
    have hne : ((n : Int) != (m : Int)) = true := by rw [bne_iff_ne]; omega
    clear hnm
    go_enter Tryd.func127, Tryd.ntmps127
    go_wp2
    go_ret
    exact ⟨ret_bool (by simp [HS.out]), 0, rfl⟩

theorem sameTexts_b (A B : Option Addr) (n m c d : Nat) (l r : List ByteArray) (w : World) (hl : Strs w A n l) (hr : Strs w B m r) (hn : n ≤ 2097152) (hm : m ≤ 2097152) :
    Calls Tryd.prog 127 #[.slice A n c, .slice B m d] w fun e w' => e = .returned (.bool (decide (l = r))) ∧ Below w.heap.size w w' :=
  (sameTexts_any A B n m c d l r w hl hr hn hm).mono fun _ _ ⟨he, q, hw⟩ => ⟨he, by subst hw; exact below_drewN (Below.refl _ _) _⟩

set_option maxHeartbeats 400000 in
theorem equalStrs_any (A B : Option Addr) (n m c d : Nat) (l r : List ByteArray) (w : World) (hl : Strs w A n l) (hr : Strs w B m r) (hn : n ≤ 2097152) (hm : m ≤ 2097152) :
    Calls Tryd.prog 128 #[.slice A n c, .slice B m d] w fun e w' => e = .returned (.bool (decide (l = r))) ∧ ∃ q, w' = w.drewN q := by
  have HL := hide hl
  have HR := hide hr
  clear hl hr
  by_cases hnm : n = m
  · subst hnm
    go_enter Tryd.func128, Tryd.ntmps128
    go_wp2
    go_loopw [13] (fun i wr => ∃ k : Nat, k ≤ n ∧ i = .int .i64 k ∧ l.take k = r.take k ∧ ∃ q, wr = w.drewN q) (fun i _ => n - (intOf i).toNat)
    case atStart => exact ⟨0, Nat.zero_le _, rfl, by simp, 0, rfl⟩
    case round =>
      obtain ⟨k, hk, rfl, htk, q, rfl⟩ := hrel
      have HT := hide htk
      clear htk
      by_cases hlt : k < n
      · obtain ⟨a1, rfl, _, hc1⟩ := (HL.out).at_ hlt
        obtain ⟨a2, rfl, _, hc2⟩ := (HR.out).at_ hlt
        by_cases he : l[k]?.getD ByteArray.empty = r[k]?.getD ByteArray.empty
        · have HS := hide (take_eq_step ByteArray.empty (by have := HL.out.1; omega) (by have := HR.out.1; omega) HT.out he)
          have HE : ((l[k]?.getD ByteArray.empty).toList == (r[k]?.getD ByteArray.empty).toList) = true := by rw [he]; exact beq_self_eq_true _
          have HE' : ((l[k]?.getD ByteArray.empty).toList != (r[k]?.getD ByteArray.empty).toList) = false := by rw [he]; simp
          clear he
          go_wp2
          go_quiet (fail)
          go_wp2
          go_roundw
          case rel => exact ⟨k + 1, by omega, by go_num, HS.out, _, rfl⟩
          case measure => simp [intOf]; omega
        · have HS := hide (take_ne_step ByteArray.empty he)
          have HE' : ((l[k]?.getD ByteArray.empty).toList == (r[k]?.getD ByteArray.empty).toList) = false := by rw [beq_eq_false_iff_ne]; intro h; exact he (toList_inj h)
          clear he
          go_wp2
          go_quiet (fail)
          go_wp2
          go_ret
          exact ⟨ret_bool (by simp [HS.out]), _, World.drewN_drewN _ _ _⟩
      · have HS := hide (show l = r by
          have h := HT.out
          rwa [List.take_of_length_le (by have := HL.out.1; omega), List.take_of_length_le (by have := HR.out.1; omega)] at h)
        go_wp2
        go_ret
        exact ⟨ret_bool (by simp [HS.out]), _, rfl⟩
  · have HS := hide (show ¬ l = r by
      rintro rfl
      exact hnm (by have := HL.out.1; have := HR.out.1; omega))
    have hne : ((n : Int) != (m : Int)) = true := by rw [bne_iff_ne]; omega
    clear hnm
    go_enter Tryd.func128, Tryd.ntmps128
    go_wp2
    go_ret
    exact ⟨ret_bool (by simp [HS.out]), 0, rfl⟩

theorem equalStrs_b (A B : Option Addr) (n m c d : Nat) (l r : List ByteArray) (w : World) (hl : Strs w A n l) (hr : Strs w B m r) (hn : n ≤ 2097152) (hm : m ≤ 2097152) :
    Calls Tryd.prog 128 #[.slice A n c, .slice B m d] w fun e w' => e = .returned (.bool (decide (l = r))) ∧ Below w.heap.size w w' :=
  (equalStrs_any A B n m c d l r w hl hr hn hm).mono fun _ _ ⟨he, q, hw⟩ => ⟨he, by subst hw; exact below_drewN (Below.refl _ _) _⟩


set_option maxHeartbeats 400000 in
theorem indexStr_any (A : Option Addr) (n c : Nat) (l : List ByteArray) (x : ByteArray) (w : World) (hl : Strs w A n l) (hn : n ≤ 2097152) :
    Calls Tryd.prog 89 #[.slice A n c, .string x] w fun e w' => e = .returned (.int .i64 (idxI (fun y => decide (x = y)) l)) ∧ w = w' := by
  have HL := hide hl
  clear hl
  go_enter Tryd.func89, Tryd.ntmps89
  go_wp2_with (fail)
  go_loop [8] (fun i => ∃ k : Nat, k ≤ n ∧ i = .int .i64 k ∧ Hid (∀ y ∈ l.take k, decide (x = y) = false)) (fun i => n - (intOf i).toNat)
  case atStart => exact ⟨0, Nat.zero_le _, rfl, fun x hx => by simp at hx⟩
  case round =>
    obtain ⟨k, hk, rfl, hno⟩ := hrel
    by_cases hlt : k < n
    · obtain ⟨ad, rfl, _, hcell⟩ := (HL.out).at_ hlt
      have hl1 := hide (show k < l.length by have := (HL.out).1; omega)
      by_cases he : x = l[k]?.getD ByteArray.empty
      · have hfin := hide (idxI_hit (p := fun y => decide (x = y)) ByteArray.empty hl1.out (by simpa using he) hno.out)
        have hb : (x.toList == (l[k]?.getD ByteArray.empty).toList) = true := by rw [he]; exact beq_self_eq_true _
        clear he
        go_wp2
        go_ret
        exact ⟨ret_int hfin.out.symm, rfl⟩
      · have hn' := hide (none_snoc (p := fun y => decide (x = y)) ByteArray.empty hl1.out (by simpa using he) hno.out)
        have hb : (x.toList == (l[k]?.getD ByteArray.empty).toList) = false := by rw [beq_eq_false_iff_ne]; intro h; exact he (toList_inj h)
        clear he hno
        go_wp2
        go_round
        case rel => exact ⟨k + 1, by omega, by go_num, hn'⟩
        case measure => simp [intOf]; omega
    · have h := hno.out
      rw [List.take_of_length_le (by have := (HL.out).1; omega)] at h
      have hfin := hide (idxI_none h)
      clear h
      go_wp2
      go_ret
      exact ⟨ret_int hfin.out.symm, rfl⟩

theorem containsStr_any (A : Option Addr) (n c : Nat) (l : List ByteArray) (x : ByteArray) (w : World) (hl : Strs w A n l) (hn : n ≤ 2097152) :
    Calls Tryd.prog 142 #[.slice A n c, .string x] w fun e w' => e = .returned (.bool (l.any fun y => decide (x = y))) ∧ w = w' := by
  have HL := hide hl
  clear hl
  go_enter Tryd.func142, Tryd.ntmps142
  go_wp2_with (go_at_call 89; refine (indexStr_any A n c l x w HL.out hn).mono ?_; rintro e w' ⟨rfl, rfl⟩)
  go_ret
  exact ⟨ret_bool idxI_ge, rfl⟩

/-- The place of the first greatest among the first k + 1. -/
def topTo (l : List Int) : Nat → Nat
  | 0 => 0
  | k + 1 => if l[topTo l k]?.getD 0 < l[k + 1]?.getD 0 then k + 1 else topTo l k
theorem topTo_le (l : List Int) : ∀ k, topTo l k ≤ k
  | 0 => Nat.le_refl _
  | k + 1 => by have := topTo_le l k; unfold topTo; split <;> omega
theorem topTo_max (l : List Int) : ∀ k j, j ≤ k → l[j]?.getD 0 ≤ l[topTo l k]?.getD 0
  | 0, j, h => by obtain rfl : j = 0 := by omega
                  exact Int.le_refl _
  | k + 1, j, h => by
    have ih := topTo_max l k
    unfold topTo
    split
    · rename_i hlt
      by_cases hj : j ≤ k
      · have := ih j hj; omega
      · obtain rfl : j = k + 1 := by omega
        exact Int.le_refl _
    · rename_i hlt
      by_cases hj : j ≤ k
      · exact ih j hj
      · obtain rfl : j = k + 1 := by omega
        omega
theorem topTo_first (l : List Int) : ∀ k j, j < topTo l k → l[j]?.getD 0 < l[topTo l k]?.getD 0
  | 0, j, h => by simp [topTo] at h
  | k + 1, j, h => by
    unfold topTo at h ⊢
    split
    · rename_i hlt
      rw [if_pos hlt] at h
      have := topTo_max l k j (by omega)
      omega
    · rename_i hlt
      rw [if_neg hlt] at h
      exact topTo_first l k j h
/-- The place of the first greatest, -1 where there is none. -/
def topI (l : List Int) : Int := if l.length = 0 then -1 else topTo l (l.length - 1)
theorem topI_idx {l : List Int} (h : 0 < l.length) : idxI (fun y => decide (l[topTo l (l.length - 1)]?.getD 0 = y)) l = topTo l (l.length - 1) := by
  have hle := topTo_le l (l.length - 1)
  refine idxI_hit 0 (by omega) (by simp) fun y hy => ?_
  rw [List.mem_take_iff_getElem] at hy
  obtain ⟨j, hj, rfl⟩ := hy
  have := topTo_first l (l.length - 1) j (by omega)
  rw [List.getElem?_eq_getElem (show j < l.length by omega)] at this
  simp only [Option.getD_some] at this
  simp; omega

/-- What the reference's loop holds behind k rounds. -/
def topAt (l : List Int) (k : Nat) : Int := if k = 0 then -1 else topTo l (k - 1)

end Go.Proofs.YtohodehmidbmlaaDoor
