/-
  Numerals and numbers: the plain law. No program is walked here.
-/
import Derived.Test.YtohodehmidbmlaaDoorDigits
import Derived.Lib.AtoiTie
namespace Go.Proofs.YtohodehmidbmlaaDoor
open Go.RowKit

theorem decFrom_snoc : ∀ (l : List UInt8) (acc : Nat) (b : UInt8), Lib.decFrom acc (l ++ [b]) = (Lib.decFrom acc l).bind fun n => (Lib.digitVal b).map fun d => n * 10 + d
  | [], acc, b => by
    simp only [List.nil_append, Lib.decFrom, Option.bind_some]
    cases Lib.digitVal b <;> rfl
  | a :: t, acc, b => by
    simp only [List.cons_append, Lib.decFrom]
    cases Lib.digitVal a with
    | none => rfl
    | some e => exact decFrom_snoc t _ b
theorem digitVal_of {i : Nat} (h : i < 10) : Lib.digitVal (UInt8.ofNat (48 + i)) = some i := by
  have e : (UInt8.ofNat (48 + i)).toNat = 48 + i := by simp; omega
  unfold Lib.digitVal
  rw [e, if_pos (by omega)]
  simp
theorem decFrom_digits (u : Nat) : Lib.decFrom 0 (Lib.decDigits u) = some u := by
  induction u using Nat.strongRecOn with
  | ind u ih =>
    by_cases h : u < 10
    · rw [Lib.decDigits_one h]
      simp only [Lib.decFrom, digitVal_of h]
      simp
    · rw [decDigits_step h, decFrom_snoc, ih (u / 10) (by omega), digitVal_of (by omega)]
      simp only [Option.bind_some, Option.map_some, Option.some.injEq]
      omega
theorem decDigits_ne (u : Nat) : Lib.decDigits u ≠ [] := by
  intro h
  have := Lib.decDigits_length u
  rw [h] at this
  by_cases hu : u < 10
  · rw [Lib.nDigits_small hu] at this; simp at this
  · rw [Lib.nDigits_big hu] at this; simp at this
theorem decNat_digits (u : Nat) : Lib.decNat (Lib.decDigits u) = some u := by
  unfold Lib.decNat
  rw [if_neg (by simpa using decDigits_ne u)]
  exact decFrom_digits u
theorem decDigits_first (u : Nat) : ∃ b r, Lib.decDigits u = b :: r ∧ 48 ≤ b.toNat ∧ b.toNat ≤ 57 := by
  match hd : Lib.decDigits u with
  | [] => exact absurd hd (decDigits_ne u)
  | b :: r =>
    refine ⟨b, r, rfl, ?_⟩
    obtain ⟨d, h⟩ := Lib.digit_of_decFrom _ _ _ (decFrom_digits u) 0 b (by rw [hd]; rfl)
    unfold Lib.digitVal at h
    split at h
    · assumption
    · cases h
theorem atoi_itoa (n : Int) : Lib.atoi (Lib.itoa n) = some n := by
  unfold Lib.itoa
  split
  · rename_i h
    unfold Lib.atoi
    simp only [beq_self_eq_true, if_true, decNat_digits, Option.map_some, Option.some.injEq]
    omega
  · rename_i h
    obtain ⟨b, r, e, h1, h2⟩ := decDigits_first n.toNat
    have hb1 : (b == 45) = false := beq_eq_false_iff_ne.2 (fun e => by subst e; simp at h1)
    have hb2 : (b == 43) = false := beq_eq_false_iff_ne.2 (fun e => by subst e; simp at h1)
    have hd := decNat_digits n.toNat
    rw [e] at hd ⊢
    unfold Lib.atoi
    simp only [hb1, hb2, Bool.false_eq_true, if_false, hd, Option.map_some, Option.some.injEq]
    omega
theorem nDigits_le : ∀ (k u : Nat), u < 10 ^ (k + 1) → Lib.nDigits u ≤ k + 1
  | 0, u, h => by rw [Lib.nDigits_small (by simpa using h)]; omega
  | k + 1, u, h => by
    by_cases hu : u < 10
    · rw [Lib.nDigits_small hu]; omega
    · rw [Lib.nDigits_big hu]
      have := nDigits_le k (u / 10) (Nat.div_lt_of_lt_mul (by rw [Nat.mul_comm]; rw [Nat.pow_succ] at h; exact h))
      omega
theorem atoiAll_itoa (n : Int) (h0 : -999999 ≤ n) (h1 : n ≤ 999999) : Lib.atoiAll (Lib.itoa n) = .ok n := by
  rw [Lib.atoiAll_short, atoi_itoa]
  · rfl
  · unfold Lib.itoa
    split
    · have := nDigits_le 5 n.natAbs (by omega)
      rw [List.length_cons, Lib.decDigits_length]; omega
    · have := nDigits_le 5 n.toNat (by omega)
      rw [Lib.decDigits_length]; omega
theorem numB_list (n : Int) : (numB n).data.toList = Lib.itoa n := rfl
theorem numB_inj {a b : Int} (h : numB a = numB b) : a = b := by
  have h1 : Lib.itoa a = Lib.itoa b := by rw [← numB_list, ← numB_list, h]
  have h2 := atoi_itoa a
  rw [h1, atoi_itoa b] at h2
  injection h2 with h2
  exact h2.symm

/-- The number from lo to hi whose numeral is s. -/
def rdI (s : ByteArray) (lo hi : Int) : Int × Bool := match Lib.atoiAll s.data.toList with
  | .ok v => if inB v lo hi = true ∧ numB v = s then (v, true) else (0, false)
  | _ => (0, false)
theorem rdI_yes {s : ByteArray} {lo hi v : Int} (h0 : -999999 ≤ v) (h1 : v ≤ 999999) (hb : inB v lo hi = true) (hs : numB v = s) : rdI s lo hi = (v, true) := by
  unfold rdI
  rw [show Lib.atoiAll s.data.toList = .ok v by rw [← hs, numB_list, atoiAll_itoa v h0 h1]]
  simp only [hb, hs, and_self, if_true]
theorem rdI_or (s : ByteArray) (lo hi : Int) : rdI s lo hi = (0, false) ∨ ∃ v, inB v lo hi = true ∧ numB v = s ∧ rdI s lo hi = (v, true) := by
  unfold rdI
  split
  · split
    · rename_i h; exact .inr ⟨_, h.1, h.2, rfl⟩
    · exact .inl rfl
  · exact .inl rfl
theorem rdI_no {s : ByteArray} {lo hi : Int} (h : ∀ v, inB v lo hi = true → numB v = s → False) : rdI s lo hi = (0, false) := by
  rcases rdI_or s lo hi with h1 | ⟨v, hb, hs, _⟩
  · exact h1
  · exact (h v hb hs).elim
end Go.Proofs.YtohodehmidbmlaaDoor
