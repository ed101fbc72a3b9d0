/-
  Contracts: a string parted at a byte.
-/
import Derived.Test.YtohodehmidbmlaaDoorStrs
namespace Go.Proofs.YtohodehmidbmlaaDoor
open Go.RowKit

/-- Behind i bytes: the parts that are closed, and where the open one begins. -/
def partsTo (s : ByteArray) (b : Int) : Nat → List ByteArray × Nat
  | 0 => ([], 0)
  | i + 1 => if ((s.data.toList[i]?.getD 0).toNat : Int) = b then ((partsTo s b i).1 ++ [s.extract (partsTo s b i).2 i], i + 1) else partsTo s b i
def parts (s : ByteArray) (b : Int) : List ByteArray := (partsTo s b s.size).1 ++ [s.extract (partsTo s b s.size).2 s.size]
theorem partsTo_le (s : ByteArray) (b : Int) : ∀ i, (partsTo s b i).2 ≤ i ∧ (partsTo s b i).1.length ≤ i
  | 0 => by simp [partsTo]
  | i + 1 => by
    have h := partsTo_le s b i
    unfold partsTo
    split
    · simp; omega
    · omega
theorem partsTo_yes {s : ByteArray} {b : Int} {i : Nat} (hi : i < s.size) (h : (s[i].toNat : Int) = b) : partsTo s b (i + 1) = ((partsTo s b i).1 ++ [s.extract (partsTo s b i).2 i], i + 1) := by
  rw [partsTo, if_pos]
  rw [List.getElem?_eq_getElem (by simpa using hi)]; exact h
theorem partsTo_no {s : ByteArray} {b : Int} {i : Nat} (hi : i < s.size) (h : ¬ (s[i].toNat : Int) = b) : partsTo s b (i + 1) = partsTo s b i := by
  rw [partsTo, if_neg]
  rw [List.getElem?_eq_getElem (by simpa using hi)]; exact h
theorem parts_len (s : ByteArray) (b : Int) : (parts s b).length ≤ s.size + 1 := by
  have := (partsTo_le s b s.size).2
  simp [parts]; omega

set_option maxHeartbeats 1000000 in
theorem implParts_any (s : ByteArray) (b : Int) (w : World) (hs : s.size ≤ 1048576) :
    Calls Tryd.prog 87 #[.string s, .int .u8 b] w fun e w' => ∃ D n m, e = .returned (.slice D n m) ∧ OwnS w.heap.size w' (.slice D n m) (parts s b) ∧ n = (parts s b).length ∧ Below w.heap.size w w' := by
  go_enter Tryd.func87, Tryd.ntmps87
  go_wp2
  have hown0 := own_empty w w.heap.size 9 1 (Nat.le_refl _)
  go_loopw [5, 6, 7] (fun v f i wr => ∃ (k n : Nat) (F : Nat) (out : List ByteArray), k ≤ s.size ∧ i = .int .i64 k ∧ f = .int .i64 F ∧ F ≤ k ∧ n ≤ k ∧ Hid ((out, F) = partsTo s b k) ∧ (∃ D m, v = .slice D n m) ∧ wr.ownsRow w.heap.size 9 1 v n (out.map Value.string) ∧ Below w.heap.size w wr) (fun _ _ i _ => s.size - (intOf i).toNat)
  case atStart => exact ⟨0, 0, 0, [], Nat.zero_le _, rfl, rfl, Nat.le_refl _, Nat.le_refl _, rfl, ⟨_, _, rfl⟩, hown0, (Below.refl _ _).alloc (Nat.le_refl _) _⟩
  case round =>
    clear hown0
    obtain ⟨k, n, F, out, hk, rfl, rfl, hF, hnk, hp, ⟨D, m, rfl⟩, hown, hbel⟩ := hrel
    have hsz := hbel.size
    by_cases hlt : k < s.size
    · by_cases hc : (s[k].toNat : Int) = b
      · have hc' : ((s[k].toNat : Int) == b) = true := beq_iff_eq.2 hc
        have hp' := hide (show (out ++ [s.extract F k], k + 1) = partsTo s b (k + 1) by rw [partsTo_yes hlt hc, ← hp.out])
        clear hc
        go_wp2_with (at_builtin; go_must (refine wpList_append_one wr rfl _ _ 23 rfl w.heap.size 9 (.string ⟨#[]⟩) 1 16 Tryd.underlying23 infoS rfl (by decide) _ n _ [.string (s.extract F k)] rfl hown _ rfl rfl (by simp [Value.oneCell']) rfl (by unfold maxLen; omega) (by omega) hsz ?_); intro v' w1 hown1 hb1 _ _)
        go_roundw
        case rel => exact ⟨k + 1, n + 1, k + 1, _, by omega, by go_num, by go_num, Nat.le_refl _, by omega, hp', own_shape hown1, by simpa using hown1, hbel.trans hb1⟩
        case measure => simp [intOf]; omega
      · have hc' : ((s[k].toNat : Int) == b) = false := beq_eq_false_iff_ne.2 hc
        have hp' := hide (show (out, F) = partsTo s b (k + 1) by rw [partsTo_no hlt hc, ← hp.out])
        clear hc
        go_wp2
        go_roundw
        case rel => exact ⟨k + 1, n, F, _, by omega, by go_num, rfl, by omega, by omega, hp', ⟨_, _, rfl⟩, hown, hbel⟩
        case measure => simp [intOf]; omega
    · obtain rfl : k = s.size := by omega
      have hp' := hide (show parts s b = out ++ [s.extract F s.size] by rw [parts, ← hp.out])
      go_wp2_with (at_builtin; go_must (refine wpList_append_one wr rfl _ _ 23 rfl w.heap.size 9 (.string ⟨#[]⟩) 1 16 Tryd.underlying23 infoS rfl (by decide) _ n _ [.string (s.extract F s.size)] rfl hown _ rfl rfl (by simp [Value.oneCell']) rfl (by unfold maxLen; omega) (by omega) hsz ?_); intro v' w1 hown1 hb1 _ _)
      obtain ⟨D', m', rfl⟩ := own_shape hown1
      go_ret
      have hn : (out.map Value.string).length = n := by simpa using hown.1
      have hn' : (parts s b).length = n + 1 := by rw [hp'.out]; simp at hn; simp [hn]
      refine ⟨_, _, _, rfl, ?_, hn'.symm, hbel.trans hb1⟩
      rw [OwnS, hn', hp'.out]
      simpa using hown1

/-- What the loop of the reference holds behind k rounds, of which the last is at the string's end. -/
def partsAt (s : ByteArray) (b : Int) (k : Nat) (out : List ByteArray) (F : Nat) : Prop := if k ≤ s.size then (out, F) = partsTo s b k else out = parts s b

set_option maxHeartbeats 1000000 in
theorem specParts_any (s : ByteArray) (b : Int) (w : World) (hs : s.size ≤ 1048576) :
    Calls Tryd.prog 82 #[.string s, .int .u8 b] w fun e w' => ∃ D n m, e = .returned (.slice D n m) ∧ OwnS w.heap.size w' (.slice D n m) (parts s b) ∧ n = (parts s b).length ∧ Below w.heap.size w w' := by
  go_enter Tryd.func82, Tryd.ntmps82
  go_wp2
  have hown0 := own_empty w w.heap.size 9 1 (Nat.le_refl _)
  go_loopw [5, 6, 7] (fun v f i wr => ∃ (k n : Nat) (F : Nat) (out : List ByteArray), k ≤ s.size + 1 ∧ i = .int .i64 k ∧ f = .int .i64 F ∧ F ≤ k ∧ n ≤ k ∧ Hid (partsAt s b k out F) ∧ (∃ D m, v = .slice D n m) ∧ wr.ownsRow w.heap.size 9 1 v n (out.map Value.string) ∧ Below w.heap.size w wr) (fun _ _ i _ => s.size + 1 - (intOf i).toNat)
  case atStart => exact ⟨0, 0, 0, [], Nat.zero_le _, rfl, rfl, Nat.le_refl _, Nat.le_refl _, rfl, ⟨_, _, rfl⟩, hown0, (Below.refl _ _).alloc (Nat.le_refl _) _⟩
  case round =>
    clear hown0
    obtain ⟨k, n, F, out, hk, rfl, rfl, hF, hnk, hp, ⟨D, m, rfl⟩, hown, hbel⟩ := hrel
    have hsz := hbel.size
    by_cases hle : k ≤ s.size
    · have hp0 := hide (show (out, F) = partsTo s b k by have h := hp.out; rwa [partsAt, if_pos hle] at h)
      clear hp
      by_cases hlt : k < s.size
      · have hne : ((k : Int) == (s.size : Int)) = false := beq_eq_false_iff_ne.2 (by omega)
        by_cases hc : (s[k].toNat : Int) = b
        · have hc' : ((s[k].toNat : Int) == b) = true := beq_iff_eq.2 hc
          have hp' := hide (show partsAt s b (k + 1) (out ++ [s.extract F k]) (k + 1) by rw [partsAt, if_pos (by omega), partsTo_yes hlt hc, ← hp0.out])
          clear hc
          go_wp2_with (at_builtin; go_must (refine wpList_append_one wr rfl _ _ 23 rfl w.heap.size 9 (.string ⟨#[]⟩) 1 16 Tryd.underlying23 infoS rfl (by decide) _ n _ [.string (s.extract F k)] rfl hown _ rfl rfl (by simp [Value.oneCell']) rfl (by unfold maxLen; omega) (by omega) hsz ?_); intro v' w1 hown1 hb1 _ _)
          go_roundw
          case rel => exact ⟨k + 1, n + 1, k + 1, _, by omega, by go_num, by go_num, Nat.le_refl _, by omega, hp', own_shape hown1, by simpa using hown1, hbel.trans hb1⟩
          case measure => simp [intOf]; omega
        · have hc' : ((s[k].toNat : Int) == b) = false := beq_eq_false_iff_ne.2 hc
          have hp' := hide (show partsAt s b (k + 1) out F by rw [partsAt, if_pos (by omega), partsTo_no hlt hc, ← hp0.out])
          clear hc
          go_wp2
          go_roundw
          case rel => exact ⟨k + 1, n, F, _, by omega, by go_num, rfl, by omega, by omega, hp', ⟨_, _, rfl⟩, hown, hbel⟩
          case measure => simp [intOf]; omega
      · obtain rfl : k = s.size := by omega
        have hp' := hide (show partsAt s b (s.size + 1) (out ++ [s.extract F s.size]) (s.size + 1) by rw [partsAt, if_neg (by omega), parts, ← hp0.out])
        go_wp2_with (at_builtin; go_must (refine wpList_append_one wr rfl _ _ 23 rfl w.heap.size 9 (.string ⟨#[]⟩) 1 16 Tryd.underlying23 infoS rfl (by decide) _ n _ [.string (s.extract F s.size)] rfl hown _ rfl rfl (by simp [Value.oneCell']) rfl (by unfold maxLen; omega) (by omega) hsz ?_); intro v' w1 hown1 hb1 _ _)
        go_roundw
        case rel => exact ⟨s.size + 1, n + 1, s.size + 1, _, by omega, by go_num, by go_num, Nat.le_refl _, by omega, hp', own_shape hown1, by simpa using hown1, hbel.trans hb1⟩
        case measure => simp [intOf]
    · have hp' := hide (show out = parts s b by have h := hp.out; rwa [partsAt, if_neg hle] at h)
      go_wp2
      go_ret
      have hn : (out.map Value.string).length = n := by simpa using hown.1
      rw [List.length_map] at hn
      refine ⟨_, _, _, rfl, ?_, by rw [← hp'.out, hn], hbel⟩
      rw [OwnS, ← hp'.out, hn]
      exact hown
end Go.Proofs.YtohodehmidbmlaaDoor
