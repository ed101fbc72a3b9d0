/-
  Contracts: numbers read, the reference's side; the laws Number and Signed.
-/
import Derived.Test.YtohodehmidbmlaaDoorNum
namespace Go.Proofs.YtohodehmidbmlaaDoor
open Go.RowKit
set_option maxRecDepth 100000

set_option maxHeartbeats 2000000 in
theorem specNumber_any (s : ByteArray) (hs : s.size ≤ 1048576) (w : World) :
    Calls Tryd.prog 48 #[.string s] w fun e w' => e = .returned (.tuple #[.int .i64 (rdI s 0 999999).1, .bool (rdI s 0 999999).2]) ∧ Below w.heap.size w w' := by
  by_cases hlen : s.size < 1 ∨ 6 < s.size
  · have hf := hide (num_len hlen)
    rcases hlen with hlen | hlen
    all_goals
      go_enter Tryd.func48, Tryd.ntmps48
      go_wp2
      go_ret2
      exact ⟨by rw [hf.out]; rfl, Below.refl _ _⟩
  · have hl1 : 1 ≤ s.size := by omega
    have hl6 : s.size ≤ 6 := by omega
    clear hlen
    go_enter Tryd.func48, Tryd.ntmps48
    go_wp2
    go_loop [4, 5] (fun v i => ∃ k n : Nat, k ≤ s.size ∧ i = .int .i64 k ∧ v = .int .i64 n ∧ n ≤ 999999 ∧ Hid (Lib.decFrom 0 (s.data.toList.take k) = some n ∧ n < 10 ^ k)) (fun _ i => s.size - (intOf i).toNat)
    case atStart => exact ⟨0, 0, Nat.zero_le _, rfl, rfl, by omega, ⟨by simp [Lib.decFrom], by simp⟩⟩
    case round =>
      obtain ⟨k, n, hk, rfl, rfl, hn, hd⟩ := hrel
      by_cases hlt : k < s.size
      · by_cases hb : 48 ≤ s[k].toNat ∧ s[k].toNat ≤ 57
        · have hst := hide (num_step hlt hd.out.1 hb)
          have hpw := hide (num_pow (d := s[k].toNat - 48) hd.out.2 (by omega))
          have hsm := num_small hpw.out (by omega)
          obtain ⟨hb0, hb1⟩ := hb
          have g1 : (48 : Int) ≤ s[k].toNat := by omega
          have g2 : (s[k].toNat : Int) ≤ 57 := by omega
          go_wp2
          go_round
          case rel => exact ⟨k + 1, n * 10 + (s[k].toNat - 48), by omega, by go_num, by rw [show ((n * 10 + (s[k].toNat - 48) : Nat) : Int) = 10 * n + s[k].toNat - 48 by omega], hsm, hst.out, hpw.out⟩
          case measure => simp [intOf]; omega
        · have hf := hide (num_byte hlt hb)
          rcases (show s[k].toNat < 48 ∨ 57 < s[k].toNat by omega) with g | g
          · have g1 : (s[k].toNat : Int) < 48 := by omega
            clear hb
            go_wp2
            go_ret2
            exact ⟨by rw [hf.out]; rfl, Below.refl _ _⟩
          · have g1 : (57 : Int) < s[k].toNat := by omega
            have g2 : (48 : Int) ≤ s[k].toNat := by omega
            clear hb
            go_wp2
            go_ret2
            exact ⟨by rw [hf.out]; rfl, Below.refl _ _⟩
      · have hd' := hd.out.1
        rw [List.take_of_length_le (show s.data.toList.length ≤ k by have e : s.data.toList.length = s.size := rfl; omega)] at hd'
        have hE := hide (num_end hd' hn)
        clear hd' hd
        by_cases he : numB (n : Int) = s
        · have hf := hide (show rdI s 0 999999 = ((n : Int), true) by rw [hE.out, if_pos he])
          have hq : ((numB (n : Int)).toList == s.toList) = true := by rw [he]; simp
          clear he
          go_wp2_with (fail)
          refine (specDigits_any (n : Int) (by omega) (by omega) _).mono ?_
          rintro e w1 ⟨rfl, hb⟩
          go_wp2
          go_ret2
          exact ⟨by rw [hf.out]; rfl, hb⟩
        · have hf := hide (show rdI s 0 999999 = (0, false) by rw [hE.out, if_neg he])
          have hq : ((numB (n : Int)).toList == s.toList) = false := by
            rw [beq_eq_false_iff_ne]
            exact fun h => he (str_inj h)
          clear he
          go_wp2_with (fail)
          refine (specDigits_any (n : Int) (by omega) (by omega) _).mono ?_
          rintro e w1 ⟨rfl, hb⟩
          go_wp2
          go_ret2
          exact ⟨by rw [hf.out]; rfl, hb⟩

/-! The reference's number with a sign: the plain law. -/
theorem numB_size5 {v : Int} {s : ByteArray} (h0 : -9999 ≤ v) (h1 : v ≤ 9999) (h : numB v = s) : 1 ≤ s.size ∧ s.size ≤ 5 := by
  have hl : s.size = (Lib.itoa v).length := by rw [← h]; simp [numB, ByteArray.size]
  have h3 : ∀ u : Nat, 1 ≤ Lib.nDigits u := fun u => by
    by_cases hu : u < 10
    · rw [Lib.nDigits_small hu]; omega
    · rw [Lib.nDigits_big hu]; omega
  unfold Lib.itoa at hl
  split at hl
  · have h2 := nDigits_le 3 v.natAbs (by omega)
    rw [List.length_cons, Lib.decDigits_length] at hl
    have := h3 v.natAbs
    omega
  · have h2 := nDigits_le 3 v.toNat (by omega)
    rw [Lib.decDigits_length] at hl
    have := h3 v.toNat
    omega
theorem sig_len {s : ByteArray} (h : s.size < 1 ∨ 5 < s.size) : rdI s (-9999) 9999 = (0, false) :=
  rdI_no fun v hb hs => by
    obtain ⟨h0, h1⟩ := inB_iff.1 hb
    have := numB_size5 h0 h1 hs
    omega
theorem sig_pos {s : ByteArray} (hs : 0 < s.size) (h : ¬ s[0].toNat = 45) : rdI s (-9999) 9999 = if (rdI s 0 999999).2 = true ∧ (rdI s 0 999999).1 ≤ 9999 then ((rdI s 0 999999).1, true) else (0, false) := by
  split
  · rename_i hc
    rcases rdI_or s 0 999999 with h1 | ⟨v, hb, hv, h1⟩
    · rw [h1] at hc; simp at hc
    · rw [h1] at hc ⊢
      obtain ⟨b0, b1⟩ := inB_iff.1 hb
      exact rdI_yes (by omega) (by omega) (inB_iff.2 ⟨by omega, hc.2⟩) hv
  · rename_i hc
    refine rdI_no fun v hb hv => hc ?_
    obtain ⟨b0, b1⟩ := inB_iff.1 hb
    by_cases hn : v < 0
    · exfalso
      apply h
      have e : s.data.toList = 45 :: Lib.decDigits v.natAbs := by rw [← hv, numB_list, Lib.itoa, if_pos hn]
      have hl : 0 < s.data.toList.length := hs
      have : s.data.toList[0] = 45 := by simp [e]
      rw [show s[0] = s.data.toList[0] from rfl, this]
      rfl
    · rw [rdI_yes (v := v) (by omega) (by omega) (inB_iff.2 ⟨by omega, by omega⟩) hv]
      exact ⟨rfl, b1⟩
theorem sig_neg {s : ByteArray} (hs : 0 < s.size) (h : s[0].toNat = 45) : rdI s (-9999) 9999 = if (rdI (s.extract 1 s.size) 0 999999).2 = true ∧ 1 ≤ (rdI (s.extract 1 s.size) 0 999999).1 ∧ (rdI (s.extract 1 s.size) 0 999999).1 ≤ 9999 then (-(rdI (s.extract 1 s.size) 0 999999).1, true) else (0, false) := by
  have hl : 0 < s.data.toList.length := hs
  have h45 : s[0] = 45 := by apply UInt8.toNat_inj.1; exact h
  have hcons : s.data.toList = 45 :: (s.extract 1 s.size).data.toList := by
    have e1 : (s.extract 1 s.size).data.toList = s.data.toList.drop 1 := by
      rw [ByteArray.data_extract, Array.toList_extract]
      simp only [List.extract]
      rw [List.take_of_length_le]
      rw [List.length_drop]
      exact Nat.le_refl _
    rw [e1]
    have := List.drop_eq_getElem_cons (l := s.data.toList) (i := 0) hl
    rw [List.drop_zero] at this
    rw [this]
    congr 1
  have key : ∀ v : Int, 1 ≤ v → (numB (-v) = s ↔ numB v = s.extract 1 s.size) := by
    intro v hv
    have e : Lib.itoa (-v) = 45 :: Lib.itoa v := by
      unfold Lib.itoa
      rw [if_pos (by omega), if_neg (by omega)]
      congr 2
      omega
    constructor
    · intro hh
      have : Lib.itoa (-v) = s.data.toList := by rw [← hh]; rfl
      rw [e, hcons] at this
      injection this with _ this
      apply ByteArray.ext
      apply Array.toList_inj.1
      rw [numB_list, this]
    · intro hh
      apply ByteArray.ext
      apply Array.toList_inj.1
      rw [numB_list, e, hcons, ← hh, numB_list]
  split
  · rename_i hc
    rcases rdI_or (s.extract 1 s.size) 0 999999 with h1 | ⟨v, hb, hv, h1⟩
    · rw [h1] at hc; simp at hc
    · rw [h1] at hc ⊢
      obtain ⟨b0, b1⟩ := inB_iff.1 hb
      exact rdI_yes (v := -v) (by have := hc.2.2; omega) (by have := hc.2.1; omega) (inB_iff.2 ⟨by have := hc.2.2; omega, by have := hc.2.1; omega⟩) ((key v hc.2.1).2 hv)
  · rename_i hc
    refine rdI_no fun v hb hv => hc ?_
    obtain ⟨b0, b1⟩ := inB_iff.1 hb
    have hn : v < 0 := by
      rcases Int.lt_or_le v 0 with h' | h'
      · exact h'
      · exfalso
        have e : s.data.toList = Lib.decDigits v.toNat := by rw [← hv, numB_list, Lib.itoa, if_neg (by omega)]
        obtain ⟨b, r, e2, g1, g2⟩ := decDigits_first v.toNat
        rw [e, e2] at hcons
        injection hcons with hcons _
        rw [hcons] at g1
        simp at g1
    have hv' : numB (-v) = s.extract 1 s.size := (key (-v) (by omega)).1 (by rw [Int.neg_neg]; exact hv)
    rw [rdI_yes (v := -v) (by omega) (by omega) (inB_iff.2 ⟨by omega, by omega⟩) hv']
    exact ⟨rfl, by omega, by omega⟩

set_option maxHeartbeats 2000000 in
theorem specSigned_any (s : ByteArray) (hs : s.size ≤ 1048576) (w : World) :
    Calls Tryd.prog 52 #[.string s] w fun e w' => e = .returned (.tuple #[.int .i64 (rdI s (-9999) 9999).1, .bool (rdI s (-9999) 9999).2]) ∧ Below w.heap.size w w' := by
  by_cases hlen : s.size < 1 ∨ 5 < s.size
  · have hf := hide (sig_len hlen)
    rcases hlen with hlen | hlen
    all_goals
      go_enter Tryd.func52, Tryd.ntmps52
      go_wp2
      go_ret2
      exact ⟨by rw [hf.out]; rfl, Below.refl _ _⟩
  · have hl1 : 1 ≤ s.size := by omega
    have hl5 : s.size ≤ 5 := by omega
    clear hlen
    have h0 : 0 < s.size := hl1
    by_cases h45 : s[0].toNat = 45
    · have hE := hide (sig_neg h0 h45)
      have hq : ((s[0].toNat : Int) == 45) = true := by simp [h45]
      have hq2 : ((s[0].toNat : Int) != 45) = false := by simp [h45]
      have hsz : (s.extract 1 s.size).size ≤ 1048576 := by rw [ByteArray.size_extract]; omega
      obtain ⟨T, hT⟩ : ∃ T, T = s.extract 1 s.size := ⟨_, rfl⟩
      rw [← hT] at hE hsz
      have HT := hide hT
      clear hT h45
      go_enter Tryd.func52, Tryd.ntmps52
      go_wp2_with (fail)
      rw [← HT.out]
      refine (specNumber_any T hsz _).mono ?_
      rintro e w1 ⟨rfl, hb⟩
      have hR := rdI_or T 0 999999
      obtain ⟨r, hr⟩ : ∃ r, r = rdI T 0 999999 := ⟨_, rfl⟩
      rw [← hr] at hE hR ⊢
      clear hr
      rcases hR with rfl | ⟨v, hbv, -, rfl⟩
      · have hf := hide (show rdI s (-9999) 9999 = (0, false) by rw [hE.out]; simp)
        go_wp2
        go_ret2
        exact ⟨by rw [hf.out]; rfl, hb⟩
      · obtain ⟨b0, b1⟩ := inB_iff.1 hbv
        clear hbv
        rcases (show v < 1 ∨ 9999 < v ∨ (1 ≤ v ∧ v ≤ 9999) by omega) with g | g | ⟨g1, g2⟩
        · have hf := hide (show rdI s (-9999) 9999 = (0, false) by rw [hE.out, if_neg]; rintro ⟨_, h, _⟩; simp at h; omega)
          go_wp2
          go_ret2
          exact ⟨by rw [hf.out]; rfl, hb⟩
        · have hf := hide (show rdI s (-9999) 9999 = (0, false) by rw [hE.out, if_neg]; rintro ⟨_, _, h⟩; simp at h; omega)
          go_wp2
          go_ret2
          exact ⟨by rw [hf.out]; rfl, hb⟩
        · have hf := hide (show rdI s (-9999) 9999 = (-v, true) by rw [hE.out, if_pos ⟨rfl, g1, g2⟩])
          go_wp2
          go_ret2
          exact ⟨by rw [hf.out]; rfl, hb⟩
    · have hE := hide (sig_pos h0 h45)
      have hq : ((s[0].toNat : Int) == 45) = false := beq_eq_false_iff_ne.2 (by omega)
      have hq2 : ((s[0].toNat : Int) != 45) = true := by rw [bne_iff_ne]; omega
      clear h45
      go_enter Tryd.func52, Tryd.ntmps52
      go_wp2_with (fail)
      refine (specNumber_any s hs _).mono ?_
      rintro e w1 ⟨rfl, hb⟩
      have hR := rdI_or s 0 999999
      obtain ⟨r, hr⟩ : ∃ r, r = rdI s 0 999999 := ⟨_, rfl⟩
      rw [← hr] at hE hR ⊢
      clear hr
      rcases hR with rfl | ⟨v, hbv, -, rfl⟩
      · have hf := hide (show rdI s (-9999) 9999 = (0, false) by rw [hE.out]; simp)
        go_wp2
        go_ret2
        exact ⟨by rw [hf.out]; rfl, hb⟩
      · obtain ⟨b0, b1⟩ := inB_iff.1 hbv
        clear hbv
        rcases (show 9999 < v ∨ v ≤ 9999 by omega) with g | g
        · have hf := hide (show rdI s (-9999) 9999 = (0, false) by rw [hE.out, if_neg]; rintro ⟨_, h⟩; simp at h; omega)
          go_wp2
          go_ret2
          exact ⟨by rw [hf.out]; rfl, hb⟩
        · have hf := hide (show rdI s (-9999) 9999 = (v, true) by rw [hE.out, if_pos ⟨rfl, g⟩])
          go_wp2
          go_ret2
          exact ⟨by rw [hf.out]; rfl, hb⟩

theorem fnExactNumber_walk (w : World) (s : ByteArray) (hs : s.size ≤ maxLen) (hd : DoorW w) :
    Calls Tryd.prog 9 #[.string s] w fun e w' => e = .returned (.bool true) ∧ Below w.heap.size w w' := by
  unfold maxLen at hs
  by_cases h : s.size ≤ 1048576
  · have HD := hide hd
    obtain ⟨r, hr⟩ : ∃ r, r = rdI s 0 999999 := ⟨_, rfl⟩
    have HR := hide hr
    clear hr hd
    have q1 : (r.1 == r.1) = true := by simp
    have q2 : (r.2 == r.2) = true := by simp
    have q3 : (r.1 != r.1) = false := by simp
    have q4 : (r.2 != r.2) = false := by simp
    go_enter Tryd.func9, Tryd.ntmps9
    go_wp2_with (fail)
    refine (specNumber_any s h _).mono ?_
    rintro e w1 ⟨rfl, hb1⟩
    rw [← HR.out]
    replace HD := hide (HD.out.keep hb1)
    go_wp2_with (fail)
    refine (implNumber_any s h _ HD.out).mono ?_
    rintro e w2 ⟨rfl, hb2⟩
    rw [← HR.out]
    have hB := bthen hb1 hb2
    clear hb1 hb2
    go_wp2
    go_ret
    exact ⟨rfl, hB⟩
  · go_enter Tryd.func9, Tryd.ntmps9
    go_wp2
    go_ret
    exact ⟨rfl, Below.refl _ _⟩

theorem fnExactSigned_walk (w : World) (s : ByteArray) (hs : s.size ≤ maxLen) (hd : DoorW w) :
    Calls Tryd.prog 11 #[.string s] w fun e w' => e = .returned (.bool true) ∧ Below w.heap.size w w' := by
  unfold maxLen at hs
  by_cases h : s.size ≤ 1048576
  · have HD := hide hd
    obtain ⟨r, hr⟩ : ∃ r, r = rdI s (-9999) 9999 := ⟨_, rfl⟩
    have HR := hide hr
    clear hr hd
    have q1 : (r.1 == r.1) = true := by simp
    have q2 : (r.2 == r.2) = true := by simp
    have q3 : (r.1 != r.1) = false := by simp
    have q4 : (r.2 != r.2) = false := by simp
    go_enter Tryd.func11, Tryd.ntmps11
    go_wp2_with (fail)
    refine (specSigned_any s h _).mono ?_
    rintro e w1 ⟨rfl, hb1⟩
    rw [← HR.out]
    replace HD := hide (HD.out.keep hb1)
    go_wp2_with (fail)
    refine (implSigned_any s h _ HD.out).mono ?_
    rintro e w2 ⟨rfl, hb2⟩
    rw [← HR.out]
    have hB := bthen hb1 hb2
    clear hb1 hb2
    go_wp2
    go_ret
    exact ⟨rfl, hB⟩
  · go_enter Tryd.func11, Tryd.ntmps11
    go_wp2
    go_ret
    exact ⟨rfl, Below.refl _ _⟩

end Go.Proofs.YtohodehmidbmlaaDoor
