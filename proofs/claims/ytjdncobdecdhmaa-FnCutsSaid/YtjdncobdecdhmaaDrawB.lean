/-
  Contracts: drawn lists of numbers.
-/
import Derived.Test.YtjdncobdecdhmaaDrawA
import Derived.Test.YtjdncobdecdhmaaApp
namespace Go.Proofs.Ytjdncobdecdhmaa
open Go.RowKit
set_option maxRecDepth 100000

set_option maxHeartbeats 8000000 in
theorem l6Draw_any (b : Nat) (w : World) (h : Cur w b) :
    Calls Try.prog 76 #[.pointer (some ⟨b, 0, none⟩)] w fun e w' => ∃ D n m l, e = .returned (.slice D n m) ∧ OwnI w.heap.size w' (.slice D n m) l ∧ n = l.length ∧ n ≤ 66 ∧ Cur w' b ∧ Only (· = b) w w' := by
  have HC := hide h
  have hbw := h.lt
  clear h
  have hown0 := own_empty w w.heap.size 3 1 (Nat.le_refl _)
  have hb0 : Below w.heap.size w (w.alloc (.cells #[] 3)) := (Below.refl _ _).alloc (Nat.le_refl _) _
  have HC0 := hide (HC.out.keep hb0)
  have ho0 : Only (· = b) w (w.alloc (.cells #[] 3)) := Only.of_below hb0
  have hlt0 : b < (w.alloc (.cells #[] 3)).heap.size := by simp; omega
  obtain ⟨w0, hw0⟩ : ∃ w0, w0 = w.alloc (.cells #[] 3) := ⟨_, rfl⟩
  have HW := hide hw0
  have HZ := hide (show w0.heap.size = w.heap.size + 1 by rw [hw0]; simp)
  rw [← hw0] at hown0 HC0 ho0 hlt0
  clear hw0 hb0
  go_enter Try.func76, Try.ntmps76
  go_wp2_with (fail)
  rw [← HW.out, ← HZ.out]
  refine (l1PickInt_any b (some ⟨w0.heap.size, 0, none⟩) 8 8 [0, 1, 2, 3, 5, 9, 64, 65] _ (HC0.out.keep ((Below.refl _ _).alloc (Nat.le_refl _) _)) (ints_lit w0 [0, 1, 2, 3, 5, 9, 64, 65] _) (fun _ => lit_apart HC0.out) (by omega) (by omega)).mono ?_
  rintro e w1 ⟨k, hk, rfl, hC1, ho1⟩
  have HC1 := hide hC1
  have hbA : Below w0.heap.size w0 (w0.alloc (.cells (([0, 1, 2, 3, 5, 9, 64, 65] : List Int).map (Value.int .i64)).toArray 3)) := (Below.refl _ _).alloc (Nat.le_refl _) _
  have hown1 := own_only (own_below hown0 hbA) ho1 (fun k hk hkb => by have := (hown0.lt k hk).1; omega)
  have hO1 : Only (· = b) w w1 := (ho0.trans (Only.of_below hbA)).trans ho1
  clear hC1 ho1 hbA ho0 hown0 hlt0
  obtain ⟨Z, hZ, hZ2⟩ : ∃ Z : Nat, ([0, 1, 2, 3, 5, 9, 64, 65] : List Int)[k]?.getD 0 = Z ∧ Z ≤ 65 := by
    have h : ∀ k, k < 8 → 0 ≤ ([0, 1, 2, 3, 5, 9, 64, 65] : List Int)[k]?.getD 0 ∧ ([0, 1, 2, 3, 5, 9, 64, 65] : List Int)[k]?.getD 0 ≤ 65 := by decide
    have := h k hk
    exact ⟨(([0, 1, 2, 3, 5, 9, 64, 65] : List Int)[k]?.getD 0).toNat, by omega, by omega⟩
  rw [hZ]
  clear hZ
  go_wp2
  go_loopw [3, 5] (fun v i wr => ∃ (K : Nat) (l : List Int), K ≤ Z ∧ i = .int .i64 K ∧ (∃ D m, v = .slice D K m) ∧ wr.ownsRow w.heap.size 3 1 v K (l.map (Value.int .i64)) ∧ Cur wr b ∧ Only (· = b) w wr) (fun _ i _ => Z - (intOf i).toNat)
  case atStart => exact ⟨0, [], Nat.zero_le _, rfl, ⟨_, _, rfl⟩, hown1, HC1.out, hO1⟩
  case round =>
    clear hown1 hO1 HC1
    obtain ⟨K, l, hk, rfl, ⟨D, m, rfl⟩, hown, hC, hO⟩ := hrel
    have HC2 := hide hC
    have HO := hide hO
    have HOW := hide hown
    clear hC hO hown
    by_cases hlt : K < Z
    · go_wp2_with (fail)
      refine (l1Below_any b 12 _ HC2.out (by omega)).mono ?_
      rintro e w2 ⟨x, rfl, hx0, hx1, -, hC3, ho3⟩
      replace HC2 := hide hC3
      replace HO := hide (HO.out.trans ho3)
      replace HOW := hide (own_only HOW.out ho3 (fun k hk hkb => by have := (HOW.out.lt k hk).1; omega))
      clear hC3 ho3
      go_wp2_with (fail)
      refine (l1Below_any b 300 _ HC2.out (by omega)).mono ?_
      rintro e w3 ⟨y, rfl, hy0, hy1, -, hC3, ho3⟩
      replace HC2 := hide hC3
      replace HO := hide (HO.out.trans ho3)
      replace HOW := hide (own_only HOW.out ho3 (fun k hk hkb => by have := (HOW.out.lt k hk).1; omega))
      clear hC3 ho3
      have hy2 : y < 300 := hy1 (by omega)
      clear hx1 hy1
      go_wp2_with (fail)
      refine (l1PickInt_any b (some ⟨w3.heap.size, 0, none⟩) 6 6 [x, -9999, 9998, y - 150, 4, 4] _ (HC2.out.keep ((Below.refl _ _).alloc (Nat.le_refl _) _)) (ints_lit w3 [x, -9999, 9998, y - 150, 4, 4] _) (fun _ => lit_apart HC2.out) (by omega) (by omega)).mono ?_
      rintro e w4 ⟨k4, -, rfl, hC3, ho3⟩
      generalize ([x, -9999, 9998, y - 150, 4, 4] : List Int)[k4]?.getD 0 = u
      have hbA : Below w3.heap.size w3 (w3.alloc (.cells (([x, -9999, 9998, y - 150, 4, 4] : List Int).map (Value.int .i64)).toArray 3)) := (Below.refl _ _).alloc (Nat.le_refl _) _
      replace HC2 := hide hC3
      replace HO := hide ((HO.out.trans (Only.of_below hbA)).trans ho3)
      replace HOW := hide (own_only (own_below HOW.out hbA) ho3 (fun k hk hkb => by have := (HOW.out.lt k hk).1; omega))
      clear hC3 ho3 hbA
      have hsz := (HO.out).size
      go_wp2_with (at_builtin; go_must (refine wpList_append_one w4 rfl _ _ 28 rfl w.heap.size 3 (.int .i64 0) 1 8 Try.underlying28 infoI rfl (by decide) _ K _ [.int .i64 u] rfl HOW.out _ rfl rfl (by simp [Value.oneCell']) rfl (by unfold maxLen; omega) (by omega) hsz ?_); intro v' w5 hown5 hb5 _ _)
      have HC5 := hide (Cur.low HC2.out hbw hb5)
      have HO5 := hide (show Only (· = b) w w5 from HO.out.low hb5)
      go_roundw
      case rel => exact ⟨K + 1, l ++ [u], by omega, by go_num, own_shape hown5, by simpa using hown5, HC5.out, HO5.out⟩
      case measure => simp [intOf]; omega
    · obtain rfl : Z = K := by omega
      go_wp2_with (fail)
      refine (l1Once_any b 8 _ HC2.out (by omega)).mono ?_
      rintro e w2 ⟨x, rfl, hC3, ho3⟩
      replace HC2 := hide hC3
      replace HO := hide (HO.out.trans ho3)
      replace HOW := hide (own_only HOW.out ho3 (fun k hk hkb => by have := (HOW.out.lt k hk).1; omega))
      clear hC3 ho3
      have hln := hide (show l.length = Z by simpa using HOW.out.1)
      cases x
      · go_wp2
        go_ret
        exact ⟨D, Z, m, l, rfl, by rw [OwnI, hln.out]; exact HOW.out, hln.out.symm, by omega, HC2.out, HO.out⟩
      · go_wp2_with (fail)
        refine (l1PickInt_any b (some ⟨w2.heap.size, 0, none⟩) 3 3 [9999, -10000, 9223372036854775807] _ (HC2.out.keep ((Below.refl _ _).alloc (Nat.le_refl _) _)) (ints_lit w2 [9999, -10000, 9223372036854775807] _) (fun _ => lit_apart HC2.out) (by omega) (by omega)).mono ?_
        rintro e w4 ⟨k4, -, rfl, hC3, ho3⟩
        generalize ([9999, -10000, 9223372036854775807] : List Int)[k4]?.getD 0 = u
        have hbA : Below w2.heap.size w2 (w2.alloc (.cells (([9999, -10000, 9223372036854775807] : List Int).map (Value.int .i64)).toArray 3)) := (Below.refl _ _).alloc (Nat.le_refl _) _
        replace HC2 := hide hC3
        replace HO := hide ((HO.out.trans (Only.of_below hbA)).trans ho3)
        replace HOW := hide (own_only (own_below HOW.out hbA) ho3 (fun k hk hkb => by have := (HOW.out.lt k hk).1; omega))
        clear hC3 ho3 hbA
        have hsz := (HO.out).size
        go_wp2_with (at_builtin; go_must (refine wpList_append_one w4 rfl _ _ 28 rfl w.heap.size 3 (.int .i64 0) 1 8 Try.underlying28 infoI rfl (by decide) _ Z _ [.int .i64 u] rfl HOW.out _ rfl rfl (by simp [Value.oneCell']) rfl (by unfold maxLen; omega) (by omega) hsz ?_); intro v' w5 hown5 hb5 _ _)
        have HC5 := hide (Cur.low HC2.out hbw hb5)
        have HO5 := hide (show Only (· = b) w w5 from HO.out.low hb5)
        obtain ⟨D', m', rfl⟩ := own_shape hown5
        go_ret
        exact ⟨D', Z + 1, m', l ++ [u], rfl, by rw [OwnI, List.length_append, hln.out]; simpa using hown5, by simp [hln.out], by omega, HC5.out, HO5.out⟩

set_option maxHeartbeats 4000000 in
theorem drawEqualCuts_any (A : Option Addr) (n c : Nat) (l : List UInt8) (w : World) (hl : Bytes w A n l) (hn : n ≤ 1048576) :
    Calls Try.prog 36 #[.slice A n c] w fun e w' => ∃ x y z : Int, e = .returned (.tuple #[.int .i64 x, .int .i64 y, .int .i64 z]) ∧ -9223372036854775808 ≤ z ∧ z ≤ 9223372036854775807 ∧ Below w.heap.size w w' := by
  have HL := hide hl
  clear hl
  go_enter Try.func36, Try.ntmps36
  go_wp2_with (fail)
  refine (l1New_any A n c l _ HL.out hn).mono ?_
  rintro e w1 ⟨b, rfl, hb, hC, hB⟩
  have HC := hide hC
  clear hC
  go_wp2_with (fail)
  refine (l1PickInt_any b (some ⟨w1.heap.size, 0, none⟩) 5 5 [0, -9999, 5, -10000, -9223372036854775808] _ (HC.out.keep ((Below.refl _ _).alloc (Nat.le_refl _) _)) (ints_lit w1 [0, -9999, 5, -10000, -9223372036854775808] _) (fun _ => lit_apart HC.out) (by omega) (by omega)).mono ?_
  rintro e w2 ⟨k, hk, rfl, hC2, ho2⟩
  replace HC := hide hC2
  replace hB := Only.below (hB.alloc (by have := hB.size; omega) _) (by have := hB.size; simp; omega) ho2 (fun j hj => by omega)
  clear ho2 hC2
  generalize ([0, -9999, 5, -10000, -9223372036854775808] : List Int)[k]?.getD 0 = x
  go_wp2_with (fail)
  refine (l1PickInt_any b (some ⟨w2.heap.size, 0, none⟩) 7 7 [3, 9, 10, 9998, 9999, 7, 9223372036854775807] _ (HC.out.keep ((Below.refl _ _).alloc (Nat.le_refl _) _)) (ints_lit w2 [3, 9, 10, 9998, 9999, 7, 9223372036854775807] _) (fun _ => lit_apart HC.out) (by omega) (by omega)).mono ?_
  rintro e w3 ⟨k3, hk3, rfl, hC2, ho2⟩
  replace HC := hide hC2
  replace hB := Only.below (hB.alloc (by have := hB.size; omega) _) (by have := hB.size; simp; omega) ho2 (fun j hj => by omega)
  clear ho2 hC2
  generalize ([3, 9, 10, 9998, 9999, 7, 9223372036854775807] : List Int)[k3]?.getD 0 = y
  go_wp2_with (fail)
  refine (l1PickInt_any b (some ⟨w3.heap.size, 0, none⟩) 6 6 [2, 3, 4, 4, 1, 5] _ (HC.out.keep ((Below.refl _ _).alloc (Nat.le_refl _) _)) (ints_lit w3 [2, 3, 4, 4, 1, 5] _) (fun _ => lit_apart HC.out) (by omega) (by omega)).mono ?_
  rintro e w4 ⟨k4, hk4, rfl, hC2, ho2⟩
  replace HC := hide hC2
  replace hB := Only.below (hB.alloc (by have := hB.size; omega) _) (by have := hB.size; simp; omega) ho2 (fun j hj => by omega)
  clear ho2 hC2
  have hz : ∀ k, k < 6 → -9223372036854775808 ≤ ([2, 3, 4, 4, 1, 5] : List Int)[k]?.getD 0 ∧ ([2, 3, 4, 4, 1, 5] : List Int)[k]?.getD 0 ≤ 9223372036854775807 := by decide
  have hz4 := hide (hz k4 hk4)
  clear hz
  generalize ([2, 3, 4, 4, 1, 5] : List Int)[k4]?.getD 0 = z at *
  go_wp2
  exact bodyPost_ret (results_tmp3 rfl _ _ _) rfl ⟨x, y, z, rfl, hz4.out.1, hz4.out.2, hB⟩

set_option maxHeartbeats 4000000 in
theorem drawQuantileCuts_any (A : Option Addr) (n c : Nat) (l : List UInt8) (w : World) (hl : Bytes w A n l) (hn : n ≤ 1048576) :
    Calls Try.prog 40 #[.slice A n c] w fun e w' => ∃ D N m L z, e = .returned (.tuple #[.slice D N m, .int .i64 z]) ∧ Ints w' D N L ∧ N ≤ 66 ∧ -9223372036854775808 ≤ z ∧ z ≤ 9223372036854775807 ∧ Below w.heap.size w w' := by
  have HL := hide hl
  clear hl
  go_enter Try.func40, Try.ntmps40
  go_wp2_with (fail)
  refine (l1New_any A n c l _ HL.out hn).mono ?_
  rintro e w1 ⟨b, rfl, hb, hC, hB⟩
  have HC := hide hC
  clear hC
  go_wp2_with (fail)
  refine (l6Draw_any b _ HC.out).mono ?_
  rintro e w2 ⟨D, N, m, L, rfl, hown, hN, hN2, hC2, ho2⟩
  have hbw := HC.out.lt
  replace HC := hide hC2
  subst hN
  have HI := hide hown
  replace hB := Only.below hB (by have := hB.size; omega) ho2 (fun j hj => by omega)
  clear ho2 hC2 hown
  go_wp2_with (fail)
  refine (l1PickInt_any b (some ⟨w2.heap.size, 0, none⟩) 6 6 [2, 3, 4, 4, 1, 5] _ (HC.out.keep ((Below.refl _ _).alloc (Nat.le_refl _) _)) (ints_lit w2 [2, 3, 4, 4, 1, 5] _) (fun _ => lit_apart HC.out) (by omega) (by omega)).mono ?_
  rintro e w4 ⟨k4, hk4, rfl, hC2, ho2⟩
  have hbA : Below w2.heap.size w2 (w2.alloc (.cells (([2, 3, 4, 4, 1, 5] : List Int).map (Value.int .i64)).toArray 3)) := (Below.refl _ _).alloc (Nat.le_refl _) _
  have hI4 := OwnI.ints (own_only (own_below HI.out hbA) ho2 (fun k hk hkb => by have := (HI.out.lt k hk).1; omega))
  have HI4 := hide hI4
  replace hB := Only.below (hB.alloc (by have := hB.size; omega) _) (by have := hB.size; simp; omega) ho2 (fun j hj => by omega)
  clear ho2 hC2 hI4 hbA
  have hz : ∀ k, k < 6 → -9223372036854775808 ≤ ([2, 3, 4, 4, 1, 5] : List Int)[k]?.getD 0 ∧ ([2, 3, 4, 4, 1, 5] : List Int)[k]?.getD 0 ≤ 9223372036854775807 := by decide
  have hz4 := hide (hz k4 hk4)
  clear hz
  generalize ([2, 3, 4, 4, 1, 5] : List Int)[k4]?.getD 0 = z at *
  go_wp2
  exact bodyPost_ret (results_tmp2 rfl _ _ _) rfl ⟨D, L.length, m, L, z, rfl, HI4.out, hN2, hz4.out.1, hz4.out.2, hB⟩
end Go.Proofs.Ytjdncobdecdhmaa
