/-
  Contracts: lists of distinct words.
-/
import Derived.Test.YtjdncobdecdhmaaWords
import Derived.Test.YtjdncobdecdhmaaScal2
namespace Go.Proofs.Ytjdncobdecdhmaa
open Go.RowKit

/-- Different words. -/
def wordsB (l : List ByteArray) : Bool := l.all wordB && decide l.Nodup
theorem words_bad {l : List ByteArray} {k : Nat} (hk : k < l.length) (h : wordB (l[k]?.getD ByteArray.empty) = false) : wordsB l = false := by
  rw [wordsB, all_badD ByteArray.empty hk h]; rfl
theorem words_twice {l : List ByteArray} {k : Nat} (hk : k < l.length) (h : (l[k]?.getD ByteArray.empty) ∈ l.take k) : wordsB l = false := by
  have hn : ¬ l.Nodup := by
    intro hnd
    rw [List.getElem?_eq_getElem hk, Option.getD_some, List.mem_take_iff_getElem] at h
    obtain ⟨j, hj, e⟩ := h
    exact (List.pairwise_iff_getElem.1 hnd) j k (by omega) hk (by omega) e
  simp [wordsB, hn]
theorem nodup_snoc {l : List ByteArray} {k : Nat} (hk : k < l.length) (h : (l.take k).Nodup) (hx : (l[k]?.getD ByteArray.empty) ∉ l.take k) : (l.take (k + 1)).Nodup := by
  rw [List.getElem?_eq_getElem hk, Option.getD_some] at hx
  rw [List.take_succ_eq_append_getElem hk, List.nodup_append]
  refine ⟨h, by simp, fun a ha b hb => ?_⟩
  simp only [List.mem_singleton] at hb
  subst hb
  intro e
  exact hx (e ▸ ha)
theorem words_all {l : List ByteArray} {k : Nat} (hk : l.length ≤ k) (h1 : (l.take k).all wordB = true) (h2 : (l.take k).Nodup) : wordsB l = true := by
  rw [List.take_of_length_le hk] at h1 h2
  simp [wordsB, h2]
  simpa using h1
theorem mem_snoc {l : List ByteArray} {j : Nat} {X : ByteArray} (hj : j < l.length) (h : X ∉ l.take j) (hx : ¬ X = l[j]?.getD ByteArray.empty) : X ∉ l.take (j + 1) := by
  rw [List.getElem?_eq_getElem hj, Option.getD_some] at hx
  rw [List.take_succ_eq_append_getElem hj, List.mem_append, List.mem_singleton]
  rintro (h' | h')
  · exact h h'
  · exact hx h'
theorem mem_of {l : List ByteArray} {j k : Nat} (hj : j < l.length) (hjk : j < k) : (l[j]?.getD ByteArray.empty) ∈ l.take k := by
  rw [List.getElem?_eq_getElem hj, Option.getD_some, List.mem_take_iff_getElem]
  exact ⟨j, by omega, rfl⟩

set_option maxHeartbeats 1000000 in
theorem specWords_any (A : Option Addr) (n c : Nat) (l : List ByteArray) (w : World) (hl : Strs w A n l) (hs : ∀ s ∈ l, s.size ≤ 9223372036854775807) (hn : n ≤ 2097152) :
    Calls Try.prog 81 #[.slice A n c] w fun e w' => e = .returned (.bool (wordsB l)) ∧ ∃ q, w' = w.drewN q := by
  have HL := hide hl
  have HS := hide hs
  clear hl hs
  go_enter Try.func81, Try.ntmps81
  go_wp2
  go_loopw [3] (fun i wr => ∃ k : Nat, k ≤ n ∧ i = .int .i64 k ∧ Hid ((l.take k).all wordB = true) ∧ Hid ((l.take k).Nodup) ∧ ∃ q, wr = w.drewN q) (fun i _ => n - (intOf i).toNat)
  case atStart => exact ⟨0, Nat.zero_le _, rfl, show _ = _ by simp, show List.Nodup _ by simp, 0, rfl⟩
  case round =>
    obtain ⟨k, hk, rfl, hall, hnd, q, rfl⟩ := hrel
    by_cases hlt : k < n
    · obtain ⟨ad, rfl, _, hcell⟩ := (HL.out).at_ hlt
      have hkl := hide (show k < l.length by have := (HL.out).1; omega)
      obtain ⟨X, hX⟩ : ∃ X, X = l[k]?.getD ByteArray.empty := ⟨_, rfl⟩
      have hXs : X.size ≤ 9223372036854775807 := by
        rw [hX, List.getElem?_eq_getElem hkl.out]
        exact HS.out _ (List.getElem_mem hkl.out)
      rw [← hX] at hcell
      have HX := hide hX
      clear hX
      cases hw : wordB X
      · have hbad := hide (words_bad hkl.out (by rw [← HX.out]; exact hw))
        go_wp2_with (go_at_call 106; refine (specWordOk_any _ _ hXs).mono ?_; rintro e w' ⟨rfl, rfl⟩)
        go_ret
        exact ⟨ret_bool hbad.out.symm, _, rfl⟩
      · have hall' := hide (all_stepD (p := wordB) ByteArray.empty hkl.out hall.out (by rw [← HX.out]; exact hw))
        clear hall
        go_wp2_with (go_at_call 106; refine (specWordOk_any _ _ hXs).mono ?_; rintro e w' ⟨rfl, rfl⟩)
        go_loopw [4] (fun i wr => ∃ j : Nat, j ≤ k ∧ i = .int .i64 j ∧ Hid (X ∉ l.take j) ∧ ∃ q, wr = w.drewN q) (fun i _ => k - (intOf i).toNat)
        case atStart => exact ⟨0, Nat.zero_le _, rfl, show ¬ _ by simp, _, rfl⟩
        case round =>
          obtain ⟨j, hj, rfl, hno, q', rfl⟩ := hrel
          by_cases hjk : j < k
          · obtain ⟨ad', e, _, hcell2⟩ := (HL.out).at_ (k := j) (by omega)
            injection e with e
            subst e
            obtain ⟨Y, hY⟩ : ∃ Y, Y = l[j]?.getD ByteArray.empty := ⟨_, rfl⟩
            rw [← hY] at hcell2
            have HY := hide hY
            clear hY
            have hjl := hide (show j < l.length by have := hkl.out; omega)
            by_cases hXY : X = Y
            · have hbad := hide (words_twice hkl.out (by rw [← HX.out, hXY, HY.out]; exact mem_of hjl.out hjk))
              have hb : (X.toList == Y.toList) = true := by rw [hXY]; exact beq_self_eq_true _
              clear hXY
              go_wp2
              go_quiet (fail)
              go_wp2
              go_ret
              exact ⟨ret_bool hbad.out.symm, _, World.drewN_drewN _ _ _⟩
            · have hno' := hide (mem_snoc hjl.out hno.out (by rw [← HY.out]; exact hXY))
              have hb : (X.toList == Y.toList) = false := by rw [beq_eq_false_iff_ne]; intro h; exact hXY (toList_inj h)
              clear hXY hno
              go_wp2
              go_quiet (fail)
              go_wp2
              go_roundw
              case rel => exact ⟨j + 1, by omega, by go_num, hno', _, rfl⟩
              case measure => simp [intOf]; omega
          · obtain rfl : j = k := by omega
            have hnd' := hide (nodup_snoc hkl.out hnd.out (by rw [← HX.out]; exact hno.out))
            go_wp2
            go_roundw
            case rel => exact ⟨j + 1, by omega, by go_num, hall', hnd', _, rfl⟩
            case measure => simp [intOf]; omega
    · have hfin := hide (words_all (by have := (HL.out).1; omega) hall.out hnd.out)
      go_wp2
      go_ret
      exact ⟨ret_bool hfin.out.symm, _, rfl⟩

set_option maxHeartbeats 1000000 in
theorem implWords_any (A : Option Addr) (n c : Nat) (l : List ByteArray) (w : World) (hl : Strs w A n l) (hs : ∀ s ∈ l, s.size ≤ 9223372036854775807) (hn : n ≤ 2097152) (hnc : n ≤ c) :
    Calls Try.prog 84 #[.slice A n c] w fun e w' => e = .returned (.bool (wordsB l)) ∧ w = w' := by
  have HL := hide hl
  have HS := hide hs
  clear hl hs
  go_enter Try.func84, Try.ntmps84
  go_wp2
  go_loop [7] (fun i => ∃ k : Nat, k ≤ n ∧ i = .int .i64 k ∧ Hid ((l.take k).all wordB = true) ∧ Hid ((l.take k).Nodup)) (fun i => n - (intOf i).toNat)
  case atStart => exact ⟨0, Nat.zero_le _, rfl, show _ = _ by simp, show List.Nodup _ by simp⟩
  case round =>
    obtain ⟨k, hk, rfl, hall, hnd⟩ := hrel
    by_cases hlt : k < n
    · obtain ⟨ad, rfl, _, hcell⟩ := (HL.out).at_ hlt
      have hkl := hide (show k < l.length by have := (HL.out).1; omega)
      obtain ⟨X, hX⟩ : ∃ X, X = l[k]?.getD ByteArray.empty := ⟨_, rfl⟩
      have hXs : X.size ≤ 9223372036854775807 := by
        rw [hX, List.getElem?_eq_getElem hkl.out]
        exact HS.out _ (List.getElem_mem hkl.out)
      rw [← hX] at hcell
      have HX := hide hX
      clear hX
      cases hw : wordB X
      · have hbad := hide (words_bad hkl.out (by rw [← HX.out]; exact hw))
        go_wp2_with (go_at_call 107; refine (implWordOk_any _ _ hXs).mono ?_; rintro e w' ⟨rfl, rfl⟩)
        go_ret
        exact ⟨ret_bool hbad.out.symm, rfl⟩
      · have hall' := hide (all_stepD (p := wordB) ByteArray.empty hkl.out hall.out (by rw [← HX.out]; exact hw))
        clear hall
        have HT := hide (slc_take HL.out (show k ≤ n by omega))
        cases hin : ((l.take k).any fun y => decide (X = y))
        · have hnd' := hide (nodup_snoc hkl.out hnd.out (by
            rw [← HX.out]
            intro hm
            rw [List.any_eq_false] at hin
            exact hin X hm (by simp)))
          go_wp2_with (first | (go_at_call 107; refine (implWordOk_any _ _ hXs).mono ?_; rintro e w' ⟨rfl, rfl⟩) | (go_at_call 108; refine (containsStr_any _ k c (l.take k) X _ HT.out (by omega)).mono ?_; rintro e w' ⟨rfl, rfl⟩))
          go_round
          case rel => exact ⟨k + 1, by omega, by go_num, hall', hnd'⟩
          case measure => simp [intOf]; omega
        · have hbad := hide (words_twice hkl.out (by
            rw [← HX.out]
            rw [List.any_eq_true] at hin
            obtain ⟨y, hy, e⟩ := hin
            simp only [decide_eq_true_eq] at e
            exact e ▸ hy))
          go_wp2_with (first | (go_at_call 107; refine (implWordOk_any _ _ hXs).mono ?_; rintro e w' ⟨rfl, rfl⟩) | (go_at_call 108; refine (containsStr_any _ k c (l.take k) X _ HT.out (by omega)).mono ?_; rintro e w' ⟨rfl, rfl⟩))
          go_ret
          exact ⟨ret_bool hbad.out.symm, rfl⟩
    · have hfin := hide (words_all (by have := (HL.out).1; omega) hall.out hnd.out)
      go_wp2
      go_ret
      exact ⟨ret_bool hfin.out.symm, rfl⟩
end Go.Proofs.Ytjdncobdecdhmaa
