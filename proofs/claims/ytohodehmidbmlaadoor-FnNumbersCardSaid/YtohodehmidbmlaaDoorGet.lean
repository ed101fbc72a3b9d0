/-
  Contracts: numbers as bytes, read.
-/
import Derived.Test.YtohodehmidbmlaaDoorPut
namespace Go.Proofs.YtohodehmidbmlaaDoor
open Go.RowKit

/-- One more group, f groups at most: the number and the place behind it. -/
def getN (l : List UInt8) (a : Nat) : (f k n : Nat) → Option (Nat × Nat)
  | 0, _, _ => none
  | f + 1, k, n =>
    if a + k < l.length then
      if 128 ≤ (l[a + k]?.getD 0).toNat then getN l a f (k + 1) (n + (l[a + k]?.getD 0).toNat % 128 * 2 ^ (7 * k))
      else if ((l[a + k]?.getD 0).toNat = 0 ∧ 0 < k) ∨ 2147483647 < n + (l[a + k]?.getD 0).toNat % 128 * 2 ^ (7 * k) then none
      else some (n + (l[a + k]?.getD 0).toNat % 128 * 2 ^ (7 * k), a + k + 1)
    else none
def tripO : Option (Nat × Nat) → Value
  | none => .tuple #[.int .i64 0, .int .i64 0, .bool false]
  | some (n, p) => .tuple #[.int .i64 n, .int .i64 p, .bool true]
def getD (l : List UInt8) (at_ : Int) : Option (Nat × Nat) := if at_ < 0 then none else getN l at_.toNat 5 0 0

theorem or_shift (N Y k : Nat) (hN : N < 2 ^ (7 * k)) : N ||| (Y * 2 ^ (7 * k)) = N + Y * 2 ^ (7 * k) := by
  have := Nat.two_pow_add_eq_or_of_lt (i := 7 * k) (b := N) hN Y
  rw [Nat.mul_comm] at this
  rw [Nat.or_comm, ← this, Nat.add_comm]
theorem group_bd (Y k : Nat) (hY : Y < 128) (hk : k < 5) : Y * 2 ^ (7 * k) < 34359738368 := by
  have h : 2 ^ (7 * k) ≤ 2 ^ 28 := Nat.pow_le_pow_right (by omega) (by omega)
  calc Y * 2 ^ (7 * k) ≤ Y * 2 ^ 28 := Nat.mul_le_mul_left _ h
    _ < 34359738368 := by omega
theorem group_next {N Y k : Nat} (hN : N < 2 ^ (7 * k)) (hY : Y < 128) : N + Y * 2 ^ (7 * k) < 2 ^ (7 * (k + 1)) := by
  have e : 2 ^ (7 * (k + 1)) = 128 * 2 ^ (7 * k) := by rw [Nat.mul_add, Nat.pow_add]; omega
  have : (Y + 1) * 2 ^ (7 * k) ≤ 128 * 2 ^ (7 * k) := Nat.mul_le_mul_right _ (by omega)
  rw [Nat.add_mul] at this
  omega
/-- What one group does. -/
theorem group_facts {N X k : Nat} (hN : N < 2 ^ (7 * k)) (hX : X < 256) (hk : k < 5) :
    bits .and .i64 (X : Int) 127 = (X : Int) % 128 ∧ ((X : Int) % 128) * 2 ^ (7 * k) = ((X % 128 * 2 ^ (7 * k) : Nat) : Int) ∧
      bits .or .i64 (N : Int) ((X % 128 * 2 ^ (7 * k) : Nat) : Int) = ((N + X % 128 * 2 ^ (7 * k) : Nat) : Int) ∧ X % 128 * 2 ^ (7 * k) < 34359738368 ∧ N + X % 128 * 2 ^ (7 * k) < 2 ^ (7 * (k + 1)) := by
  have hb := group_bd (X % 128) k (by omega) hk
  have hNN : N < 34359738368 := by
    have h : 2 ^ (7 * k) ≤ 2 ^ 28 := Nat.pow_le_pow_right (by omega) (by omega)
    omega
  refine ⟨and127 X (by omega), by rw [Int.natCast_mul, Int.natCast_emod, Int.natCast_pow]; rfl, ?_, hb, group_next hN (by omega)⟩
  rw [i64_or_nat _ _ (by omega) (by omega), or_shift N (X % 128) k hN]

theorem ret_trip {x y x' y' : Int} {b : Bool} (h1 : x = x') (h2 : y = y') : Ending.returned (.tuple #[.int .i64 x, .int .i64 y, .bool b]) = .returned (.tuple #[.int .i64 x', .int .i64 y', .bool b]) := by rw [h1, h2]
theorem getN_out {l : List UInt8} {a f k n : Nat} (h : ¬ a + k < l.length) : getN l a f k n = none := by
  cases f with
  | zero => rfl
  | succ f => rw [getN, if_neg h]
theorem getN_more {l : List UInt8} {a f k n X : Nat} (h : a + k < l.length) (hX : X = (l[a + k]?.getD 0).toNat) (h1 : 128 ≤ X) : getN l a (f + 1) k n = getN l a f (k + 1) (n + X % 128 * 2 ^ (7 * k)) := by
  subst hX; rw [getN, if_pos h, if_pos h1]
theorem getN_bad {l : List UInt8} {a f k n X : Nat} (h : a + k < l.length) (hX : X = (l[a + k]?.getD 0).toNat) (h1 : ¬ 128 ≤ X) (h2 : (X = 0 ∧ 0 < k) ∨ 2147483647 < n + X % 128 * 2 ^ (7 * k)) : getN l a (f + 1) k n = none := by
  subst hX; rw [getN, if_pos h, if_neg h1, if_pos h2]
theorem getN_good {l : List UInt8} {a f k n X : Nat} (h : a + k < l.length) (hX : X = (l[a + k]?.getD 0).toNat) (h1 : ¬ 128 ≤ X) (h2 : ¬ ((X = 0 ∧ 0 < k) ∨ 2147483647 < n + X % 128 * 2 ^ (7 * k))) : getN l a (f + 1) k n = some (n + X % 128 * 2 ^ (7 * k), a + k + 1) := by
  subst hX; rw [getN, if_pos h, if_neg h1, if_neg h2]

set_option maxRecDepth 100000 in
set_option maxHeartbeats 4000000 in
theorem implGetNum_any (A : Option Addr) (n c : Nat) (l : List UInt8) (x : Int) (w : World) (hl : Bytes w A n l) (hn : n ≤ 2097152) (hx1 : x ≤ 9223372036854775807) :
    Calls Tryd.prog 59 #[.slice A n c, .int .i64 x] w fun e w' => e = .returned (tripO (getD l x)) ∧ w = w' := by
  have HL := hide hl
  clear hl
  by_cases h0 : 0 ≤ x
  · obtain ⟨a, rfl⟩ := Int.eq_ofNat_of_zero_le h0
    have hD := hide (show getD l (a : Int) = getN l a 5 0 0 by rw [getD, if_neg (by omega)]; rfl)
    by_cases ha : a < n
    · go_enter Tryd.func59, Tryd.ntmps59
      go_wp2
      go_loop [7, 8] (fun v i => ∃ (k N : Nat), k ≤ 5 ∧ i = .int .i64 k ∧ v = .int .i64 N ∧ Hid (N < 2 ^ (7 * k)) ∧ a + k ≤ n ∧ Hid (getN l a (5 - k) k N = getN l a 5 0 0)) (fun _ i => 5 - (intOf i).toNat)
      case atStart => exact ⟨0, 0, by omega, rfl, rfl, show _ < _ by simp, by omega, rfl⟩
      case round =>
        obtain ⟨k, N, hk, rfl, rfl, hN, hak, hg⟩ := hrel
        by_cases hk5 : k < 5
        · by_cases hlt : a + k < n
          · obtain ⟨ad, rfl, _, hcell⟩ := (HL.out).at_ hlt
            obtain ⟨X, hX⟩ : ∃ X, X = (l[a + k]?.getD 0).toNat := ⟨_, rfl⟩
            have hX256 : X ≤ 255 := by have := UInt8.toNat_lt (l[a + k]?.getD 0); omega
            rw [← hX] at hcell
            have HX := hide hX
            clear hX
            obtain ⟨f1, f2, f3, f4, f5⟩ := group_facts hN.out (show X < 256 by omega) hk5
            have HF5 := hide f5
            clear f5
            have hln := hide (show a + k < l.length by have := (HL.out).1; omega)
            obtain ⟨f, hf⟩ : ∃ f, 5 - k = f + 1 := ⟨5 - k - 1, by omega⟩
            obtain ⟨Y, hY⟩ : ∃ Y, Y = X % 128 * 2 ^ (7 * k) := ⟨_, rfl⟩
            rw [← hY] at f2 f3 f4 HF5
            have HY := hide hY
            have HF := hide hf
            clear hY hf
            by_cases hm : 128 ≤ X
            · have hg' := hide (show getN l a (5 - (k + 1)) (k + 1) (N + Y) = getN l a 5 0 0 by
                rw [← hg.out, HF.out, getN_more hln.out HX.out hm, ← HY.out, show 5 - (k + 1) = f by have := HF.out; omega])
              go_wp2
              go_round
              case rel => exact ⟨k + 1, N + Y, by omega, by go_num, rfl, HF5, by omega, hg'⟩
              case measure => simp only [intOf]; omega
            · by_cases hz : X = 0 ∧ 0 < k
              · have hg' := hide (show getN l a 5 0 0 = none by rw [← hg.out, HF.out, getN_bad hln.out HX.out hm (.inl hz)])
                obtain ⟨hz1, hz2⟩ := hz
                have hz3 : ((X : Int) == 0) = true := beq_iff_eq.2 (by omega)
                clear hz1
                go_wp2
                exact bodyPost_ret (results_tmp3 rfl _ _ _) rfl ⟨by rw [hD.out, hg'.out]; rfl, rfl⟩
              · by_cases hbig : 2147483647 < N + Y
                · have hg' := hide (show getN l a 5 0 0 = none by rw [← hg.out, HF.out, getN_bad hln.out HX.out hm (.inr (by rw [← HY.out]; exact hbig))])
                  have hz3 : 0 < X ∨ k < 1 := by omega
                  rcases hz3 with hz3 | hz3
                  all_goals go_wp2
                  all_goals
                    exact bodyPost_ret (results_tmp3 rfl _ _ _) rfl ⟨by rw [hD.out, hg'.out]; rfl, rfl⟩
                · have hg' := hide (show getN l a 5 0 0 = some (N + Y, a + k + 1) by rw [← hg.out, HF.out, getN_good hln.out HX.out hm (by rw [← HY.out]; omega), ← HY.out])
                  have hz3 : 0 < X ∨ k < 1 := by omega
                  rcases hz3 with hz3 | hz3
                  all_goals go_wp2
                  all_goals
                    exact bodyPost_ret (results_tmp3 rfl _ _ _) rfl ⟨by rw [hD.out, hg'.out]; exact ret_trip (by omega) (by omega), rfl⟩
          · have hg' := hide (show getN l a 5 0 0 = none by rw [← hg.out, getN_out (by have := (HL.out).1; omega)])
            go_wp2
            exact bodyPost_ret (results_tmp3 rfl _ _ _) rfl ⟨by rw [hD.out, hg'.out]; rfl, rfl⟩
        · obtain rfl : k = 5 := by omega
          have hg' := hide (show getN l a 5 0 0 = none by rw [← hg.out]; rfl)
          go_wp2
          exact bodyPost_ret (results_tmp3 rfl _ _ _) rfl ⟨by rw [hD.out, hg'.out]; rfl, rfl⟩
    · have hg' := hide (show getD l (a : Int) = none by rw [hD.out, getN_out (by have := (HL.out).1; omega)])
      go_enter Tryd.func59, Tryd.ntmps59
      go_wp2
      refine wp_loop_rounds 1 ?_
      rw [rounds_succ]
      go_wp2
      exact bodyPost_ret (results_tmp3 rfl _ _ _) rfl ⟨by rw [hg'.out]; rfl, rfl⟩
  · have hg' := hide (show getD l x = none by rw [getD, if_pos (by omega)])
    go_enter Tryd.func59, Tryd.ntmps59
    go_wp2
    exact bodyPost_ret (results_tmp3 rfl _ _ _) rfl ⟨by rw [hg'.out]; rfl, rfl⟩

end Go.Proofs.YtohodehmidbmlaaDoor
