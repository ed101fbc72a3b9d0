/-
  Contracts: numbers read, the program's side; the plain law for the reference's.
-/
import Derived.Test.YtohodehmidbmlaaDoorAtoi
import Derived.Test.YtohodehmidbmlaaDoorDigits2
namespace Go.Proofs.YtohodehmidbmlaaDoor
open Go.RowKit
set_option maxRecDepth 100000

theorem rdI_ok {s : ByteArray} {lo hi v : Int} (h : Lib.atoiAll s.data.toList = .ok v) : rdI s lo hi = if inB v lo hi = true ∧ numB v = s then (v, true) else (0, false) := by
  unfold rdI
  rw [h]
theorem rdI_bad {s : ByteArray} {lo hi : Int} (h : ∀ u, Lib.atoiAll s.data.toList ≠ .ok u) : rdI s lo hi = (0, false) := by
  unfold rdI
  split
  · rename_i v hv; exact absurd hv (h v)
  · rfl
theorem str_inj {a b : ByteArray} (h : a.toList = b.toList) : a = b := by
  rw [ByteArray.toList_eq, ByteArray.toList_eq] at h
  exact ByteArray.ext (Array.toList_inj.1 h)

set_option maxHeartbeats 1000000 in
theorem readInt_any (s : ByteArray) (lo hi : Int) (hs : s.size ≤ 1048576) (w : World) (hd : DoorW w) :
    Calls Tryd.prog 117 #[.string s, .int .i64 lo, .int .i64 hi] w fun e w' => e = .returned (.tuple #[.int .i64 (rdI s lo hi).1, .bool (rdI s lo hi).2]) ∧ Below w.heap.size w w' := by
  have HD := hide hd
  clear hd
  go_enter Tryd.func117, Tryd.ntmps117
  go_wp2_with (fail)
  refine (atoi_any s hs _ HD.out).mono ?_
  rintro e w1 ⟨v, er, rfl, hr, hb1⟩
  rcases hr with ⟨hok, rfl⟩ | ⟨hbad, t, p, rfl⟩
  · obtain ⟨v0, v1⟩ := Lib.atoiAll_bounds hok
    have HR := hide (rdI_ok (lo := lo) (hi := hi) hok)
    replace HD := hide (HD.out.keep hb1)
    clear hok
    cases hb : inB v lo hi
    · have hf := hide (show rdI s lo hi = (0, false) by rw [HR.out, hb]; simp)
      go_wp2_with (first | (go_at_call 103; refine (within_any _ _ _ _).mono ?_; rintro e w' ⟨rfl, rfl⟩; rw [hb]))
      go_ret2
      exact ⟨by rw [hf.out]; rfl, hb1⟩
    · by_cases hn : numB v = s
      · have hf := hide (show rdI s lo hi = (v, true) by rw [HR.out, if_pos ⟨hb, hn⟩])
        have hne : ((numB v).toList == s.toList) = true := by rw [hn]; simp
        clear hn
        go_wp2_with (first | (go_at_call 103; refine (within_any _ _ _ _).mono ?_; rintro e w' ⟨rfl, rfl⟩; rw [hb]) | (go_at_call 39; refine (implDigits_any v v0 v1 _ HD.out.tab).mono ?_; rintro e w2 ⟨rfl, hb2⟩))
        go_ret2
        exact ⟨by rw [hf.out]; rfl, bthen hb1 hb2⟩
      · have hf := hide (show rdI s lo hi = (0, false) by rw [HR.out, if_neg (fun h => hn h.2)])
        have hne : ((numB v).toList == s.toList) = false := by
          rw [beq_eq_false_iff_ne]
          exact fun h => hn (str_inj h)
        clear hn
        go_wp2_with (first | (go_at_call 103; refine (within_any _ _ _ _).mono ?_; rintro e w' ⟨rfl, rfl⟩; rw [hb]) | (go_at_call 39; refine (implDigits_any v v0 v1 _ HD.out.tab).mono ?_; rintro e w2 ⟨rfl, hb2⟩))
        go_ret2
        exact ⟨by rw [hf.out]; rfl, bthen hb1 hb2⟩
  · have hf := hide (rdI_bad (lo := lo) (hi := hi) hbad)
    clear hbad
    go_wp2
    go_ret2
    exact ⟨by rw [hf.out]; rfl, hb1⟩

theorem implNumber_any (s : ByteArray) (hs : s.size ≤ 1048576) (w : World) (hd : DoorW w) :
    Calls Tryd.prog 49 #[.string s] w fun e w' => e = .returned (.tuple #[.int .i64 (rdI s 0 999999).1, .bool (rdI s 0 999999).2]) ∧ Below w.heap.size w w' := by
  have HD := hide hd
  clear hd
  go_enter Tryd.func49, Tryd.ntmps49
  go_wp2_with (fail)
  refine (readInt_any s 0 999999 hs _ HD.out).mono ?_
  rintro e w1 ⟨rfl, hb⟩
  go_wp2
  go_ret2
  exact ⟨rfl, hb⟩
theorem implSigned_any (s : ByteArray) (hs : s.size ≤ 1048576) (w : World) (hd : DoorW w) :
    Calls Tryd.prog 53 #[.string s] w fun e w' => e = .returned (.tuple #[.int .i64 (rdI s (-9999) 9999).1, .bool (rdI s (-9999) 9999).2]) ∧ Below w.heap.size w w' := by
  have HD := hide hd
  clear hd
  go_enter Tryd.func53, Tryd.ntmps53
  go_wp2_with (fail)
  refine (readInt_any s (-9999) 9999 hs _ HD.out).mono ?_
  rintro e w1 ⟨rfl, hb⟩
  go_wp2
  go_ret2
  exact ⟨rfl, hb⟩

/-! The reference's number: the plain law. -/
theorem numB_dec {v : Int} {s : ByteArray} (h0 : 0 ≤ v) (h : numB v = s) : Lib.decFrom 0 s.data.toList = some v.toNat := by
  have e : s.data.toList = Lib.decDigits v.toNat := by
    rw [← h, numB_list, Lib.itoa, if_neg (by omega)]
  rw [e, decFrom_digits]
theorem numB_size6 {v : Int} {s : ByteArray} (h0 : 0 ≤ v) (h1 : v ≤ 999999) (h : numB v = s) : 1 ≤ s.size ∧ s.size ≤ 6 := by
  have e : s.data.toList = Lib.decDigits v.toNat := by
    rw [← h, numB_list, Lib.itoa, if_neg (by omega)]
  have hl : s.size = (Lib.decDigits v.toNat).length := by rw [← e]; rfl
  have h2 := nDigits_le 5 v.toNat (by omega)
  rw [Lib.decDigits_length] at hl
  have h3 : 1 ≤ Lib.nDigits v.toNat := by
    by_cases hu : v.toNat < 10
    · rw [Lib.nDigits_small hu]; omega
    · rw [Lib.nDigits_big hu]; omega
  omega
theorem num_len {s : ByteArray} (h : s.size < 1 ∨ 6 < s.size) : rdI s 0 999999 = (0, false) :=
  rdI_no fun v hb hs => by
    obtain ⟨h0, h1⟩ := inB_iff.1 hb
    have := numB_size6 h0 h1 hs
    omega
theorem num_byte {s : ByteArray} {k : Nat} (hk : k < s.size) (h : ¬ (48 ≤ s[k].toNat ∧ s[k].toNat ≤ 57)) : rdI s 0 999999 = (0, false) :=
  rdI_no fun v hb hs => by
    obtain ⟨h0, h1⟩ := inB_iff.1 hb
    have hl : k < s.data.toList.length := hk
    obtain ⟨d, hd⟩ := Lib.digit_of_decFrom _ _ _ (numB_dec h0 hs) k s[k] (by rw [List.getElem?_eq_getElem hl]; rfl)
    unfold Lib.digitVal at hd
    rw [if_neg h] at hd
    cases hd
theorem num_end {s : ByteArray} {n : Nat} (h : Lib.decFrom 0 s.data.toList = some n) (hn : n ≤ 999999) : rdI s 0 999999 = if numB (n : Int) = s then ((n : Int), true) else (0, false) := by
  split
  · rename_i he
    exact rdI_yes (by omega) (by omega) (inB_iff.2 ⟨by omega, by omega⟩) he
  · rename_i he
    refine rdI_no fun v hb hs => he ?_
    obtain ⟨h0, h1⟩ := inB_iff.1 hb
    have h2 := numB_dec h0 hs
    rw [h] at h2
    injection h2 with h2
    rw [h2, Int.toNat_of_nonneg h0]
    exact hs
theorem num_step {s : ByteArray} {k n : Nat} (hk : k < s.size) (h : Lib.decFrom 0 (s.data.toList.take k) = some n) (hd : 48 ≤ s[k].toNat ∧ s[k].toNat ≤ 57) : Lib.decFrom 0 (s.data.toList.take (k + 1)) = some (n * 10 + (s[k].toNat - 48)) := by
  have hl : k < s.data.toList.length := hk
  exact Lib.decFrom_take _ k 0 n s[k] _ h (by rw [List.getElem?_eq_getElem hl]; rfl) (by unfold Lib.digitVal; rw [if_pos hd])
theorem num_pow {n k d : Nat} (h : n < 10 ^ k) (hd : d ≤ 9) : n * 10 + d < 10 ^ (k + 1) := by rw [Nat.pow_succ]; omega
theorem num_small {n k : Nat} (h : n < 10 ^ k) (hk : k ≤ 6) : n ≤ 999999 := by
  have : (10 : Nat) ^ k ≤ 10 ^ 6 := Nat.pow_le_pow_right (by omega) hk
  have e : (10 : Nat) ^ 6 = 1000000 := by decide
  omega
end Go.Proofs.YtohodehmidbmlaaDoor
