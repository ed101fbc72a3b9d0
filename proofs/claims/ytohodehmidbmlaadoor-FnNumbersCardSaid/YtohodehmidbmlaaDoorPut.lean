/-
  Contracts: numbers as bytes, written.
-/
import Derived.Test.YtohodehmidbmlaaDoorBytes
import Derived.Test.YtohodehmidbmlaaDoorScal
import Derived.Laws.BitsAllLaws
import Derived.Laws.BitsLemmas
import Derived.Lib.AppendStr
import Derived.Lib.ConvBytes
namespace Go.Proofs.YtohodehmidbmlaaDoor
open Go.RowKit

theorem ofInt_i64 (a : Nat) (ha : a < 9223372036854775808) : (BitVec.ofInt 64 (a : Int)).toNat = a := by
  rw [BitVec.ofInt_natCast, BitVec.toNat_ofNat]; exact Nat.mod_eq_of_lt (by omega)
theorem i64_and_nat (a b : Nat) (ha : a < 9223372036854775808) (hb : b < 9223372036854775808) : bits .and .i64 (a : Int) (b : Int) = ((a &&& b : Nat) : Int) := by
  have hx : a &&& b < 2 ^ 63 := Nat.and_lt_two_pow _ (by omega)
  show IntKind.i64.wrap ((BitVec.ofInt 64 (a : Int) &&& BitVec.ofInt 64 (b : Int)).toNat : Int) = _
  rw [BitVec.toNat_and, ofInt_i64 a ha, ofInt_i64 b hb, IntKind.wrap_i64]
  omega
theorem i64_or_nat (a b : Nat) (ha : a < 9223372036854775808) (hb : b < 9223372036854775808) : bits .or .i64 (a : Int) (b : Int) = ((a ||| b : Nat) : Int) := by
  have hx : a ||| b < 2 ^ 63 := Nat.or_lt_two_pow (by omega) (by omega)
  show IntKind.i64.wrap ((BitVec.ofInt 64 (a : Int) ||| BitVec.ofInt 64 (b : Int)).toNat : Int) = _
  rw [BitVec.toNat_or, ofInt_i64 a ha, ofInt_i64 b hb, IntKind.wrap_i64]
  omega
theorem and127 (j : Nat) (h : j < 9223372036854775808) : bits .and .i64 (j : Int) 127 = (j : Int) % 128 := by
  have e := i64_and_nat j 127 h (by omega)
  rw [show j &&& 127 = j % 128 from Nat.and_two_pow_sub_one_eq_mod j 7] at e
  rw [show ((127 : Nat) : Int) = 127 from rfl] at e
  rw [e]; omega
theorem or128 (j : Nat) : bits .or .i64 ((j : Int) % 128) 128 = (j : Int) % 128 + 128 := by
  have e := i64_or_nat (j % 128) 128 (by omega) (by omega)
  have h : (j % 128) ||| 128 = j % 128 + 128 := by
    have := Nat.two_pow_add_eq_or_of_lt (i := 7) (b := j % 128) (by omega) 1
    simp only [Nat.reducePow, Nat.mul_one] at this
    rw [Nat.or_comm]; omega
  rw [h] at e
  rw [show ((128 : Nat) : Int) = 128 from rfl, show ((j % 128 : Nat) : Int) = (j : Int) % 128 by omega] at e
  rw [e]; omega

/-- The groups of seven bits, the least first. -/
def varB (n : Nat) : List UInt8 := if h : n < 128 then [UInt8.ofNat n] else UInt8.ofNat (n % 128 + 128) :: varB (n / 128)
  termination_by n
  decreasing_by omega
theorem varB_low {n : Nat} (h : n < 128) : varB n = [UInt8.ofNat n] := by rw [varB, dif_pos h]
theorem varB_high {n : Nat} (h : ¬ n < 128) : varB n = UInt8.ofNat (n % 128 + 128) :: varB (n / 128) := by rw [varB, dif_neg h]
theorem varB_len : ∀ (n : Nat), (varB n).length ≤ n + 1 := by
  intro n
  induction n using Nat.strongRecOn with
  | _ n ih =>
    by_cases h : n < 128
    · rw [varB_low h]; simp
    · rw [varB_high h]
      have := ih (n / 128) (by omega)
      simp; omega
def putB (n : Int) : List UInt8 := if inB n 0 2147483647 then varB n.toNat else []
theorem varB_len5 {n : Nat} (h : n < 34359738368) : (varB n).length ≤ 5 := by
  by_cases h0 : n < 128
  · rw [varB_low h0]; simp
  rw [varB_high h0]
  by_cases h1 : n / 128 < 128
  · rw [varB_low h1]; simp
  rw [varB_high h1]
  by_cases h2 : n / 128 / 128 < 128
  · rw [varB_low h2]; simp
  rw [varB_high h2]
  by_cases h3 : n / 128 / 128 / 128 < 128
  · rw [varB_low h3]; simp
  rw [varB_high h3, varB_low (by omega)]
  simp
theorem putB_len (n : Int) : (putB n).length ≤ 5 := by
  unfold putB
  split
  · rename_i h
    have := inB_iff.1 h
    exact varB_len5 (by omega)
  · simp

set_option maxRecDepth 100000 in
set_option maxHeartbeats 1000000 in
theorem implPutNum_any (x : Int) (w : World) :
    Calls Tryd.prog 121 #[.int .i64 x] w fun e w' => ∃ D n m, e = .returned (.slice D n m) ∧ OwnB w.heap.size w' (.slice D n m) (putB x) ∧ n = (putB x).length ∧ Below w.heap.size w w' := by
  by_cases h : inB x 0 2147483647 = true
  · obtain ⟨h0, h1⟩ := inB_iff.1 h
    obtain ⟨X, rfl⟩ := Int.eq_ofNat_of_zero_le h0
    have hput := hide (show putB (X : Int) = varB X by rw [putB, if_pos h]; rfl)
    go_enter Tryd.func121, Tryd.ntmps121
    go_wp2_with (first | (go_at_call 103; refine (within_any _ _ _ _).mono ?_; rintro e w' ⟨rfl, rfl⟩))
    have hown0 := own_empty w w.heap.size 5 1 (Nat.le_refl _)
    go_loopw [0, 3] (fun x v wr => ∃ (j n : Nat) (out : List UInt8), x = .int .i64 j ∧ n + j ≤ X ∧ Hid (out ++ varB j = varB X) ∧ (∃ D m, v = .slice D n m) ∧ wr.ownsRow w.heap.size 5 1 v n (out.map byteV) ∧ Below w.heap.size w wr) (fun x _ _ => (intOf x).toNat)
    case atStart => exact ⟨X, 0, [], rfl, by omega, rfl, ⟨_, _, rfl⟩, hown0, (Below.refl _ _).alloc (Nat.le_refl _) _⟩
    case round =>
      clear hown0
      obtain ⟨j, n, out, rfl, hn, hp, ⟨D, m, rfl⟩, hown, hbel⟩ := hrel
      have hsz := hbel.size
      by_cases hlt : 128 ≤ j
      · have hA := and127 j (by omega)
        have hO := or128 j
        have hp' := hide (show (out ++ [UInt8.ofNat (j % 128 + 128)]) ++ varB (j / 128) = varB X by rw [← hp.out, varB_high (by omega : ¬ j < 128)]; simp)
        have hu := hide (show ((out ++ [UInt8.ofNat (j % 128 + 128)]).map byteV) = out.map byteV ++ [.int .u8 ((j : Int) % 128 + 128)] by simp [byteV]; omega)
        go_wp2_with (at_builtin; go_must (refine wpList_append_one wr rfl _ _ 26 rfl w.heap.size 5 (.int .u8 0) 1 1 Tryd.underlying26 infoB rfl (by decide) _ n _ [.int .u8 ((j : Int) % 128 + 128)] rfl hown _ rfl rfl (by simp [Value.oneCell']) rfl (by unfold maxLen; omega) (by omega) hsz ?_); intro v' w1 hown1 hb1 _ _)
        go_roundw
        case rel => exact ⟨j / 128, n + 1, _, by rw [Int.natCast_ediv]; rfl, by omega, hp', own_shape hown1, by rw [hu.out]; exact hown1, hbel.trans hb1⟩
        case measure => simp only [intOf]; omega
      · have hp' := hide (show varB X = out ++ [UInt8.ofNat j] by rw [← hp.out, varB_low (by omega)])
        have hu := hide (show ((out ++ [UInt8.ofNat j]).map byteV) = out.map byteV ++ [.int .u8 (j : Int)] by simp [byteV]; omega)
        have hj := hide (show (j : Int) % 256 = j by omega)
        go_wp2_with (at_builtin; go_must (refine wpList_append_one wr rfl _ _ 26 rfl w.heap.size 5 (.int .u8 0) 1 1 Tryd.underlying26 infoB rfl (by decide) _ n _ [.int .u8 (j : Int)] rfl hown _ rfl rfl (by simp [Value.oneCell']) (by first | rfl | rw [hj.out]) (by unfold maxLen; omega) (by omega) hsz ?_); intro v' w1 hown1 hb1 _ _)
        obtain ⟨D', m', rfl⟩ := own_shape hown1
        go_ret
        have hn2 : out.length = n := by simpa using hown.1
        have hn' : (putB (X : Int)).length = n + 1 := by rw [hput.out, hp'.out]; simp [hn2]
        refine ⟨_, _, _, rfl, ?_, hn'.symm, hbel.trans hb1⟩
        rw [OwnB, hn', hput.out, hp'.out, hu.out]
        exact hown1
  · have hno : inB x 0 2147483647 = false := by simpa using h
    have hput := hide (show putB x = [] by rw [putB, if_neg h])
    clear h
    go_enter Tryd.func121, Tryd.ntmps121
    go_wp2_with (first | (go_at_call 103; refine (within_any _ _ _ _).mono ?_; rintro e w' ⟨rfl, rfl⟩))
    go_ret
    exact ⟨_, _, _, rfl, by rw [hput.out]; exact World.ownsRow_nil _ _ _ _, by rw [hput.out]; rfl, Below.refl _ _⟩

set_option maxRecDepth 100000 in
set_option maxHeartbeats 1000000 in
theorem specPutNum_any (x : Int) (w : World) :
    Calls Tryd.prog 57 #[.int .i64 x] w fun e w' => ∃ D n m, e = .returned (.slice D n m) ∧ OwnB w.heap.size w' (.slice D n m) (putB x) ∧ n = (putB x).length ∧ Below w.heap.size w w' := by
  by_cases h : inB x 0 2147483647 = true
  · obtain ⟨h0, h1⟩ := inB_iff.1 h
    obtain ⟨X, rfl⟩ := Int.eq_ofNat_of_zero_le h0
    have hput := hide (show putB (X : Int) = varB X by rw [putB, if_pos h]; rfl)
    go_enter Tryd.func57, Tryd.ntmps57
    go_wp2_with (first | (go_at_call 113; refine (l1In_any _ _ _ _).mono ?_; rintro e w' ⟨rfl, rfl⟩))
    have hown0 := own_empty w w.heap.size 5 1 (Nat.le_refl _)
    go_loopw [0, 3] (fun x v wr => ∃ (j n : Nat) (out : List UInt8), x = .int .i64 j ∧ n + j ≤ X ∧ Hid (out ++ varB j = varB X) ∧ (∃ D m, v = .slice D n m) ∧ wr.ownsRow w.heap.size 5 1 v n (out.map byteV) ∧ Below w.heap.size w wr) (fun x _ _ => (intOf x).toNat)
    case atStart => exact ⟨X, 0, [], rfl, by omega, rfl, ⟨_, _, rfl⟩, hown0, (Below.refl _ _).alloc (Nat.le_refl _) _⟩
    case round =>
      clear hown0
      obtain ⟨j, n, out, rfl, hn, hp, ⟨D, m, rfl⟩, hown, hbel⟩ := hrel
      have hsz := hbel.size
      by_cases hlt : 128 ≤ j
      · have hA := and127 j (by omega)
        have hO := or128 j
        have hp' := hide (show (out ++ [UInt8.ofNat (j % 128 + 128)]) ++ varB (j / 128) = varB X by rw [← hp.out, varB_high (by omega : ¬ j < 128)]; simp)
        have hu := hide (show ((out ++ [UInt8.ofNat (j % 128 + 128)]).map byteV) = out.map byteV ++ [.int .u8 ((j : Int) % 128 + 128)] by simp [byteV]; omega)
        go_wp2_with (at_builtin; go_must (refine wpList_append_one wr rfl _ _ 26 rfl w.heap.size 5 (.int .u8 0) 1 1 Tryd.underlying26 infoB rfl (by decide) _ n _ [.int .u8 ((j : Int) % 128 + 128)] rfl hown _ rfl rfl (by simp [Value.oneCell']) rfl (by unfold maxLen; omega) (by omega) hsz ?_); intro v' w1 hown1 hb1 _ _)
        go_roundw
        case rel => exact ⟨j / 128, n + 1, _, by rw [Int.natCast_ediv]; rfl, by omega, hp', own_shape hown1, by rw [hu.out]; exact hown1, hbel.trans hb1⟩
        case measure => simp only [intOf]; omega
      · have hp' := hide (show varB X = out ++ [UInt8.ofNat j] by rw [← hp.out, varB_low (by omega)])
        have hu := hide (show ((out ++ [UInt8.ofNat j]).map byteV) = out.map byteV ++ [.int .u8 (j : Int)] by simp [byteV]; omega)
        have hj := hide (show (j : Int) % 256 = j by omega)
        go_wp2_with (at_builtin; go_must (refine wpList_append_one wr rfl _ _ 26 rfl w.heap.size 5 (.int .u8 0) 1 1 Tryd.underlying26 infoB rfl (by decide) _ n _ [.int .u8 (j : Int)] rfl hown _ rfl rfl (by simp [Value.oneCell']) (by first | rfl | rw [hj.out]) (by unfold maxLen; omega) (by omega) hsz ?_); intro v' w1 hown1 hb1 _ _)
        obtain ⟨D', m', rfl⟩ := own_shape hown1
        go_ret
        have hn2 : out.length = n := by simpa using hown.1
        have hn' : (putB (X : Int)).length = n + 1 := by rw [hput.out, hp'.out]; simp [hn2]
        refine ⟨_, _, _, rfl, ?_, hn'.symm, hbel.trans hb1⟩
        rw [OwnB, hn', hput.out, hp'.out, hu.out]
        exact hown1
  · have hno : inB x 0 2147483647 = false := by simpa using h
    have hput := hide (show putB x = [] by rw [putB, if_neg h])
    clear h
    go_enter Tryd.func57, Tryd.ntmps57
    go_wp2_with (first | (go_at_call 113; refine (l1In_any _ _ _ _).mono ?_; rintro e w' ⟨rfl, rfl⟩))
    go_ret
    exact ⟨_, _, _, rfl, by rw [hput.out]; exact own_empty _ _ _ _ (Nat.le_refl _), by rw [hput.out]; rfl, (Below.refl _ _).alloc (Nat.le_refl _) _⟩

theorem below_bytesWorld (w : World) (e : TypeId) (s : ByteArray) : Below w.heap.size w (Lib.bytesWorld w e s) := by
  have h : ∀ W : World, ∀ a : Addr, ∀ n : Nat, (W.freeze a n).os = W.os ∧ (W.freeze a n).tape = W.tape ∧ (W.freeze a n).output = W.output := by
    intro W a n
    unfold World.freeze
    split <;> exact ⟨rfl, rfl, rfl⟩
  refine ⟨?_, ?_, ?_, by rw [Lib.bytesWorld_size]; omega, fun k hk => Lib.bytesWorld_at_old w e s k hk⟩
  · exact (h _ _ _).1
  · exact (h _ _ _).2.1
  · exact (h _ _ _).2.2

/-- A text's bytes, its length ahead. -/
def putT (s : ByteArray) : List UInt8 := putB s.size ++ s.data.toList
theorem strCells_eq (s : ByteArray) : Lib.strCells s = s.data.toList.map byteV := rfl
theorem putT_len (s : ByteArray) : (putT s).length = (putB s.size).length + s.size := by simp [putT]

set_option maxRecDepth 100000 in
set_option maxHeartbeats 1000000 in
theorem implPutText_any (s : ByteArray) (w : World) (hs : s.size ≤ 1048576) :
    Calls Tryd.prog 56 #[.string s] w fun e w' => ∃ D n m, e = .returned (.slice D n m) ∧ OwnB w.heap.size w' (.slice D n m) (putT s) ∧ n = (putT s).length ∧ Below w.heap.size w w' := by
  have hpl : (putB s.size).length ≤ 1048577 := Nat.le_trans (putB_len _) (by omega)
  have HP := hide hpl
  clear hpl
  obtain ⟨i0, hi0, hz0, hz1, hz2⟩ := info_parts infoB
  go_enter Tryd.func56, Tryd.ntmps56
  go_wp2_with (fail)
  refine (implPutNum_any _ _).mono ?_
  rintro e w1 ⟨D1, n1, m1, rfl, ho1, hn1, hb1⟩
  have HN := hide hn1
  clear hn1
  rw [OwnB, ← HN.out] at ho1
  have hsz := hb1.size
  have hle : n1 ≤ 1048577 := by rw [HN.out]; exact HP.out
  go_wp2_with (at_builtin; go_must (refine Lib.wpList_append_own_string _ rfl _ _ 26 9 rfl w.heap.size 5 i0 Tryd.underlying26 Tryd.underlying9 hi0 hz0 hz1 hz2 _ n1 _ rfl ho1 s rfl (by unfold maxLen; omega) (by omega) hsz ?_); intro v' w2 hown2 hg2 _)
  obtain ⟨D', m', rfl⟩ := own_shape hown2
  go_ret
  have hn' : (putT s).length = n1 + s.size := by rw [putT_len, HN.out]
  refine ⟨_, _, _, rfl, ?_, hn'.symm, hb1.grown hg2 hsz fun k hk => (ho1.lt k hk).1⟩
  rw [OwnB, hn', putT, List.map_append]
  exact hown2

end Go.Proofs.YtohodehmidbmlaaDoor
