/-
  Contracts: the greatest common divisor, words. Integers of 64 bits.
-/
import Derived.Test.YtjdncobdecdhmaaScal
import Derived.Test.YtjdncobdecdhmaaMem
namespace Go.Proofs.Ytjdncobdecdhmaa
open Go.RowKit

/-- The greatest common divisor, -1 where a number is negative. -/
def gcdI (a b : Int) : Int := if 0 ≤ a ∧ 0 ≤ b then (Nat.gcd a.toNat b.toNat : Int) else -1

theorem gcd_step {p q : Nat} : Nat.gcd q (p % q) = Nat.gcd p q := by
  rw [Nat.gcd_comm q, ← Nat.gcd_rec, Nat.gcd_comm]

/-- A word: 1 to 8 small letters. -/
def letB (c : UInt8) : Bool := decide (97 ≤ (c.toNat : Int)) && decide ((c.toNat : Int) ≤ 122)
def wordB (s : ByteArray) : Bool := inB s.size 1 8 && s.data.toList.all letB

theorem letB_not {c : UInt8} (h : ¬ (97 ≤ (c.toNat : Int) ∧ (c.toNat : Int) ≤ 122)) : letB c = false := by
  simp only [letB, Bool.and_eq_false_iff, decide_eq_false_iff_not]; omega
theorem all_step {α : Type} {p : α → Bool} {l : List α} {k : Nat} (hk : k < l.length) (h : (l.take k).all p = true) (hp : p l[k] = true) : (l.take (k + 1)).all p = true := by
  rw [List.take_succ_eq_append_getElem hk, List.all_append, h]; simp [hp]
theorem all_bad {α : Type} {p : α → Bool} {l : List α} {k : Nat} (hk : k < l.length) (hp : p l[k] = false) : l.all p = false := by
  rw [List.all_eq_false]; exact ⟨l[k], List.getElem_mem hk, by simp [hp]⟩

theorem all_stepD {α : Type} {p : α → Bool} {l : List α} {k : Nat} (d : α) (hk : k < l.length) (h : (l.take k).all p = true) (hp : p (l[k]?.getD d) = true) : (l.take (k + 1)).all p = true :=
  all_step hk h (by rw [List.getElem?_eq_getElem hk] at hp; exact hp)
theorem all_badD {α : Type} {p : α → Bool} {l : List α} {k : Nat} (d : α) (hk : k < l.length) (hp : p (l[k]?.getD d) = false) : l.all p = false :=
  all_bad hk (by rw [List.getElem?_eq_getElem hk] at hp; exact hp)

set_option maxHeartbeats 400000 in
theorem specWordOk_any (s : ByteArray) (w : World) (hs : s.size ≤ 9223372036854775807) :
    Calls Try.prog 106 #[.string s] w fun e w' => e = .returned (.bool (wordB s)) ∧ w = w' := by
  by_cases h : inB s.size 1 8 = true
  · obtain ⟨h1, h2⟩ := inB_iff.1 h
    go_enter Try.func106, Try.ntmps106
    go_wp2_with (first | (go_at_call 64; refine (l1In_any _ _ _ _).mono ?_; rintro e w' ⟨rfl, rfl⟩))
    go_loop [3] (fun i => ∃ k : Nat, k ≤ s.size ∧ i = .int .i64 k ∧ Hid ((s.data.toList.take k).all letB = true)) (fun i => s.size - (intOf i).toNat)
    case atStart => exact ⟨0, Nat.zero_le _, rfl, by show _ = _; simp⟩
    case round =>
      obtain ⟨k, hk, rfl, hall⟩ := hrel
      by_cases hlt : k < s.size
      · have hkl : k < s.data.toList.length := by simpa using hlt
        by_cases hc : 97 ≤ (s[k].toNat : Int) ∧ (s[k].toNat : Int) ≤ 122
        · obtain ⟨hc1, hc2⟩ := hc
          have hn := hide (all_step (p := letB) hkl hall.out (by simp [letB]; exact ⟨hc1, hc2⟩))
          go_wp2
          go_round
          case rel => exact ⟨k + 1, by omega, by go_num, hn⟩
          case measure => simp [intOf]; omega
        · have hn := hide (all_bad (p := letB) hkl (letB_not hc))
          by_cases hc1 : 97 ≤ (s[k].toNat : Int)
          all_goals
            go_wp2
            go_ret
            exact ⟨ret_bool (by simp [wordB, h, hn.out]), rfl⟩
      · have hf := hall.out
        rw [List.take_of_length_le (by simp; omega)] at hf
        have HF := hide hf
        clear hf
        go_wp2
        go_ret
        exact ⟨ret_bool (by simp only [wordB, h, HF.out]; rfl), rfl⟩
  · have h' : inB s.size 1 8 = false := by simpa using h
    clear h
    go_enter Try.func106, Try.ntmps106
    go_wp2_with (first | (go_at_call 64; refine (l1In_any _ _ _ _).mono ?_; rintro e w' ⟨rfl, rfl⟩))
    go_ret
    exact ⟨ret_bool (by simp [wordB, h']), rfl⟩
set_option maxHeartbeats 400000 in
theorem implWordOk_any (s : ByteArray) (w : World) (hs : s.size ≤ 9223372036854775807) :
    Calls Try.prog 107 #[.string s] w fun e w' => e = .returned (.bool (wordB s)) ∧ w = w' := by
  by_cases h : inB s.size 1 8 = true
  · obtain ⟨h1, h2⟩ := inB_iff.1 h
    go_enter Try.func107, Try.ntmps107
    go_wp2_with (first | (go_at_call 65; refine (within_any _ _ _ _).mono ?_; rintro e w' ⟨rfl, rfl⟩))
    go_loop [10] (fun i => ∃ k : Nat, k ≤ s.size ∧ i = .int .i64 k ∧ Hid ((s.data.toList.take k).all letB = true)) (fun i => s.size - (intOf i).toNat)
    case atStart => exact ⟨0, Nat.zero_le _, rfl, by show _ = _; simp⟩
    case round =>
      obtain ⟨k, hk, rfl, hall⟩ := hrel
      by_cases hlt : k < s.size
      · have hkl : k < s.data.toList.length := by simpa using hlt
        by_cases hc : 97 ≤ (s[k].toNat : Int) ∧ (s[k].toNat : Int) ≤ 122
        · obtain ⟨hc1, hc2⟩ := hc
          have hn := hide (all_step (p := letB) hkl hall.out (by simp [letB]; exact ⟨hc1, hc2⟩))
          go_wp2
          go_round
          case rel => exact ⟨k + 1, by omega, by go_num, hn⟩
          case measure => simp [intOf]; omega
        · have hn := hide (all_bad (p := letB) hkl (letB_not hc))
          by_cases hc1 : 97 ≤ (s[k].toNat : Int)
          all_goals
            go_wp2
            go_ret
            exact ⟨ret_bool (by simp [wordB, h, hn.out]), rfl⟩
      · have hf := hall.out
        rw [List.take_of_length_le (by simp; omega)] at hf
        have HF := hide hf
        clear hf
        go_wp2
        go_ret
        exact ⟨ret_bool (by simp only [wordB, h, HF.out]; rfl), rfl⟩
  · have h' : inB s.size 1 8 = false := by simpa using h
    clear h
    go_enter Try.func107, Try.ntmps107
    go_wp2_with (first | (go_at_call 65; refine (within_any _ _ _ _).mono ?_; rintro e w' ⟨rfl, rfl⟩))
    go_ret
    exact ⟨ret_bool (by simp [wordB, h']), rfl⟩
end Go.Proofs.Ytjdncobdecdhmaa
