/-
  Contracts of the library's functions on slices: equal, found, the greatest, copied.
-/
import Derived.Test.YtjdncobdecdhmaaStrs
import Derived.Test.YtjdncobdecdhmaaInts2
namespace Go.Proofs.Ytjdncobdecdhmaa
open Go.RowKit

set_option maxHeartbeats 400000 in
theorem indexInt_any (A : Option Addr) (n c : Nat) (l : List Int) (x : Int) (w : World) (hl : Ints w A n l) (hn : n ≤ 2097152) :
    Calls Try.prog 73 #[.slice A n c, .int .i64 x] w fun e w' => e = .returned (.int .i64 (idxI (fun y => decide (x = y)) l)) ∧ w = w' := by
  have HL := hide hl
  clear hl
  go_enter Try.func73, Try.ntmps73
  go_wp2_with (fail)
  go_loop [8] (fun i => ∃ k : Nat, k ≤ n ∧ i = .int .i64 k ∧ Hid (∀ y ∈ l.take k, decide (x = y) = false)) (fun i => n - (intOf i).toNat)
  case atStart => exact ⟨0, Nat.zero_le _, rfl, fun x hx => by simp at hx⟩
  case round =>
    obtain ⟨k, hk, rfl, hno⟩ := hrel
    by_cases hlt : k < n
    · obtain ⟨ad, rfl, _, hcell⟩ := (HL.out).at_ hlt
      have hl1 := hide (show k < l.length by have := (HL.out).1; omega)
      by_cases he : x = l[k]?.getD 0
      · have hfin := hide (idxI_hit (p := fun y => decide (x = y)) 0 hl1.out (by simpa using he) hno.out)
        have hb : (x == l[k]?.getD 0) = true := by rw [he]; exact beq_self_eq_true _
        clear he
        go_wp2
        go_ret
        exact ⟨ret_int hfin.out.symm, rfl⟩
      · have hn' := hide (none_snoc (p := fun y => decide (x = y)) 0 hl1.out (by simpa using he) hno.out)
        have hb : (x == l[k]?.getD 0) = false := by rw [beq_eq_false_iff_ne]; exact he
        clear he hno
        go_wp2
        go_round
        case rel => exact ⟨k + 1, by omega, by go_num, hn'⟩
        case measure => simp [intOf]; omega
    · have h := hno.out
      rw [List.take_of_length_le (by have := (HL.out).1; omega)] at h
      have hfin := hide (idxI_none h)
      clear h
      go_wp2
      go_ret
      exact ⟨ret_int hfin.out.symm, rfl⟩

set_option maxHeartbeats 400000 in
theorem indexStr_any (A : Option Addr) (n c : Nat) (l : List ByteArray) (x : ByteArray) (w : World) (hl : Strs w A n l) (hn : n ≤ 2097152) :
    Calls Try.prog 119 #[.slice A n c, .string x] w fun e w' => e = .returned (.int .i64 (idxI (fun y => decide (x = y)) l)) ∧ w = w' := by
  have HL := hide hl
  clear hl
  go_enter Try.func119, Try.ntmps119
  go_wp2_with (fail)
  go_loop [8] (fun i => ∃ k : Nat, k ≤ n ∧ i = .int .i64 k ∧ Hid (∀ y ∈ l.take k, decide (x = y) = false)) (fun i => n - (intOf i).toNat)
  case atStart => exact ⟨0, Nat.zero_le _, rfl, fun x hx => by simp at hx⟩
  case round =>
    obtain ⟨k, hk, rfl, hno⟩ := hrel
    by_cases hlt : k < n
    · obtain ⟨ad, rfl, _, hcell⟩ := (HL.out).at_ hlt
      have hl1 := hide (show k < l.length by have := (HL.out).1; omega)
      by_cases he : x = l[k]?.getD ByteArray.empty
      · have hfin := hide (idxI_hit (p := fun y => decide (x = y)) ByteArray.empty hl1.out (by simpa using he) hno.out)
        have hb : (x.toList == (l[k]?.getD ByteArray.empty).toList) = true := by rw [he]; exact beq_self_eq_true _
        clear he
        go_wp2
        go_ret
        exact ⟨ret_int hfin.out.symm, rfl⟩
      · have hn' := hide (none_snoc (p := fun y => decide (x = y)) ByteArray.empty hl1.out (by simpa using he) hno.out)
        have hb : (x.toList == (l[k]?.getD ByteArray.empty).toList) = false := by rw [beq_eq_false_iff_ne]; intro h; exact he (toList_inj h)
        clear he hno
        go_wp2
        go_round
        case rel => exact ⟨k + 1, by omega, by go_num, hn'⟩
        case measure => simp [intOf]; omega
    · have h := hno.out
      rw [List.take_of_length_le (by have := (HL.out).1; omega)] at h
      have hfin := hide (idxI_none h)
      clear h
      go_wp2
      go_ret
      exact ⟨ret_int hfin.out.symm, rfl⟩

theorem containsStr_any (A : Option Addr) (n c : Nat) (l : List ByteArray) (x : ByteArray) (w : World) (hl : Strs w A n l) (hn : n ≤ 2097152) :
    Calls Try.prog 108 #[.slice A n c, .string x] w fun e w' => e = .returned (.bool (l.any fun y => decide (x = y))) ∧ w = w' := by
  have HL := hide hl
  clear hl
  go_enter Try.func108, Try.ntmps108
  go_wp2_with (go_at_call 119; refine (indexStr_any A n c l x w HL.out hn).mono ?_; rintro e w' ⟨rfl, rfl⟩)
  go_ret
  exact ⟨ret_bool idxI_ge, rfl⟩

/-- The place of the first greatest among the first k + 1. -/
def topTo (l : List Int) : Nat → Nat
  | 0 => 0
  | k + 1 => if l[topTo l k]?.getD 0 < l[k + 1]?.getD 0 then k + 1 else topTo l k
theorem topTo_le (l : List Int) : ∀ k, topTo l k ≤ k
  | 0 => Nat.le_refl _
  | k + 1 => by have := topTo_le l k; unfold topTo; split <;> omega
theorem topTo_max (l : List Int) : ∀ k j, j ≤ k → l[j]?.getD 0 ≤ l[topTo l k]?.getD 0
  | 0, j, h => by obtain rfl : j = 0 := by omega
                  exact Int.le_refl _
  | k + 1, j, h => by
    have ih := topTo_max l k
    unfold topTo
    split
    · rename_i hlt
      by_cases hj : j ≤ k
      · have := ih j hj; omega
      · obtain rfl : j = k + 1 := by omega
        exact Int.le_refl _
    · rename_i hlt
      by_cases hj : j ≤ k
      · exact ih j hj
      · obtain rfl : j = k + 1 := by omega
        omega
theorem topTo_first (l : List Int) : ∀ k j, j < topTo l k → l[j]?.getD 0 < l[topTo l k]?.getD 0
  | 0, j, h => by simp [topTo] at h
  | k + 1, j, h => by
    unfold topTo at h ⊢
    split
    · rename_i hlt
      rw [if_pos hlt] at h
      have := topTo_max l k j (by omega)
      omega
    · rename_i hlt
      rw [if_neg hlt] at h
      exact topTo_first l k j h
/-- The place of the first greatest, -1 where there is none. -/
def topI (l : List Int) : Int := if l.length = 0 then -1 else topTo l (l.length - 1)
theorem topI_idx {l : List Int} (h : 0 < l.length) : idxI (fun y => decide (l[topTo l (l.length - 1)]?.getD 0 = y)) l = topTo l (l.length - 1) := by
  have hle := topTo_le l (l.length - 1)
  refine idxI_hit 0 (by omega) (by simp) fun y hy => ?_
  rw [List.mem_take_iff_getElem] at hy
  obtain ⟨j, hj, rfl⟩ := hy
  have := topTo_first l (l.length - 1) j (by omega)
  rw [List.getElem?_eq_getElem (show j < l.length by omega)] at this
  simp only [Option.getD_some] at this
  simp; omega

set_option maxHeartbeats 400000 in
theorem maxInt_any (A : Option Addr) (n c : Nat) (l : List Int) (w : World) (hl : Ints w A n l) (hn : n ≤ 2097152) (h0 : 0 < n) :
    Calls Try.prog 72 #[.slice A n c] w fun e w' => e = .returned (.int .i64 (l[topTo l (n - 1)]?.getD 0)) ∧ w = w' := by
  obtain ⟨ad, rfl, _, hcell0⟩ := hl.at_ h0
  rw [show ad.add 0 = ad by simp [Addr.add]] at hcell0
  have HL := hide hl
  clear hl
  go_enter Try.func72, Try.ntmps72
  go_wp2
  go_loop [3, 4] (fun v i => ∃ k : Nat, 1 ≤ k ∧ k ≤ n ∧ i = .int .i64 k ∧ ∃ M, v = .int .i64 M ∧ Hid (M = l[topTo l (k - 1)]?.getD 0)) (fun _ i => n - (intOf i).toNat)
  case atStart => exact ⟨1, by omega, by omega, rfl, _, rfl, rfl⟩
  case round =>
    obtain ⟨k, h1, hk, rfl, M, rfl, hM⟩ := hrel
    by_cases hlt : k < n
    · obtain ⟨ad', e, _, hcell⟩ := (HL.out).at_ hlt
      injection e with e
      subst e
      obtain ⟨X, hX⟩ : ∃ X, X = l[k]?.getD 0 := ⟨_, rfl⟩
      rw [← hX] at hcell
      have HX := hide hX
      clear hX
      have hstep := hide (show l[topTo l (k + 1 - 1)]?.getD 0 = if M < X then X else M by
        obtain ⟨j, rfl⟩ : ∃ j, k = j + 1 := ⟨k - 1, by omega⟩
        rw [HX.out, hM.out, Nat.add_sub_cancel, Nat.add_sub_cancel, topTo]
        split <;> rfl)
      go_wp2
      go_round
      case rel => exact ⟨k + 1, by omega, by omega, by go_num, _, rfl, hstep.out.symm⟩
      case measure => simp only [intOf]; omega
    · obtain rfl : k = n := by omega
      go_wp2
      go_ret
      exact ⟨ret_int hM.out, rfl⟩

set_option maxHeartbeats 400000 in
theorem implTopOf_any (A : Option Addr) (n c : Nat) (l : List Int) (w : World) (hl : Ints w A n l) (hn : n ≤ 2097152) :
    Calls Try.prog 33 #[.slice A n c] w fun e w' => e = .returned (.int .i64 (topI l)) ∧ w = w' := by
  have HL := hide hl
  clear hl
  by_cases h0 : 0 < n
  · have hz : ((n : Int) == 0) = false := beq_eq_false_iff_ne.2 (by omega)
    have hfin := hide (show topI l = idxI (fun y => decide (l[topTo l (n - 1)]?.getD 0 = y)) l by
      have e := (HL.out).1
      subst e
      rw [topI_idx h0, topI, if_neg (by omega)])
    go_enter Try.func33, Try.ntmps33
    go_wp2_with (first | (go_at_call 72; refine (maxInt_any A n c l w HL.out hn h0).mono ?_; rintro e w' ⟨rfl, rfl⟩) | (go_at_call 73; refine (indexInt_any A n c l _ _ HL.out hn).mono ?_; rintro e w' ⟨rfl, rfl⟩))
    go_ret
    exact ⟨ret_int hfin.out.symm, rfl⟩
  · obtain rfl : n = 0 := by omega
    have hfin := hide (show topI l = -1 by rw [topI, if_pos (HL.out).1.symm])
    go_enter Try.func33, Try.ntmps33
    go_wp2
    go_ret
    exact ⟨ret_int hfin.out.symm, rfl⟩

/-- What the reference's loop holds behind k rounds. -/
def topAt (l : List Int) (k : Nat) : Int := if k = 0 then -1 else topTo l (k - 1)

end Go.Proofs.Ytjdncobdecdhmaa
