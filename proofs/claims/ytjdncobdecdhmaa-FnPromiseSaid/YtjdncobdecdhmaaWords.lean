/-
  Contracts: sizes of slices, lists of words, cuts.
-/
import Derived.Test.YtjdncobdecdhmaaLib
import Derived.Test.YtjdncobdecdhmaaCuts
namespace Go.Proofs.Ytjdncobdecdhmaa
open Go.RowKit

theorem szIntS_any (A : Option Addr) (n c : Nat) (left : Int) (w : World) (hn : n ≤ 9223372036854775807) (h0 : 0 ≤ left) (h1 : left ≤ 1048576) :
    Calls Try.prog 105 #[.slice A n c, .int .i64 left] w fun e w' => e = .returned (.int .i64 (if left < n then -1 else left - n)) ∧ w = w' := by
  by_cases h : left < n
  all_goals
    go_enter Try.func105, Try.ntmps105
    go_wp2
    go_ret
    exact ⟨rfl, rfl⟩

/-- How much a list of strings weighs. -/
def wStrs (l : List ByteArray) : Nat := l.length + (l.map ByteArray.size).sum
theorem wStrs_take {l : List ByteArray} {k : Nat} (hk : k < l.length) : ((l.take (k + 1)).map ByteArray.size).sum = ((l.take k).map ByteArray.size).sum + (l[k]?.getD ByteArray.empty).size := by
  rw [List.take_succ_eq_append_getElem hk, List.getElem?_eq_getElem hk, List.map_append, List.sum_append]
  simp only [List.map_cons, List.map_nil, List.sum_cons, List.sum_nil, Nat.add_zero, Option.getD_some]

/-- What a size function hands back: the rest, or -1. -/
def SzPost (left : Int) (wt : Nat) (w : World) (e : Ending) (w' : World) : Prop := ∃ r : Int, e = .returned (.int .i64 r) ∧ (r = -1 ∨ (0 ≤ r ∧ r + wt = left)) ∧ Below w.heap.size w w'

set_option maxHeartbeats 400000 in
theorem szStringS_any (A : Option Addr) (n c : Nat) (l : List ByteArray) (left : Int) (w : World) (hl : Strs w A n l) (hs : ∀ s ∈ l, s.size ≤ 9223372036854775807) (hn : n ≤ 9223372036854775807) (h0 : 0 ≤ left) (h1 : left ≤ 1048576) :
    Calls Try.prog 49 #[.slice A n c, .int .i64 left] w (SzPost left (wStrs l) w) := by
  have HL := hide hl
  have HS := hide hs
  clear hl hs
  by_cases h : left < n
  · go_enter Try.func49, Try.ntmps49
    go_wp2
    go_ret
    exact ⟨-1, rfl, .inl rfl, Below.refl _ _⟩
  · go_enter Try.func49, Try.ntmps49
    go_wp2
    go_loop [1, 5] (fun v i => ∃ (k : Nat) (r : Int), k ≤ n ∧ i = .int .i64 k ∧ v = .int .i64 r ∧ 0 ≤ r ∧ r ≤ left ∧ Hid (r + n + ((l.take k).map ByteArray.size).sum = left)) (fun _ i => n - (intOf i).toNat)
    case atStart => exact ⟨0, _, Nat.zero_le _, rfl, rfl, by omega, by omega, show _ = _ by simp⟩
    case round =>
      obtain ⟨k, r, hk, rfl, rfl, hr0, hr1, hsum⟩ := hrel
      by_cases hlt : k < n
      · obtain ⟨ad, rfl, _, hcell⟩ := (HL.out).at_ hlt
        obtain ⟨S, hS⟩ : ∃ S, S = l[k]?.getD ByteArray.empty := ⟨_, rfl⟩
        rw [← hS] at hcell
        have hkl : k < l.length := by have := (HL.out).1; omega
        have hsz : S.size ≤ 9223372036854775807 := by
          rw [hS, List.getElem?_eq_getElem hkl]
          exact HS.out _ (List.getElem_mem hkl)
        have hst := hide (show ((l.take (k + 1)).map ByteArray.size).sum = ((l.take k).map ByteArray.size).sum + S.size by rw [hS]; exact wStrs_take hkl)
        clear hS hkl
        by_cases hbig : r < S.size
        · go_wp2
          go_ret
          exact ⟨-1, rfl, .inl rfl, Below.refl _ _⟩
        · go_wp2
          go_round
          case rel => exact ⟨k + 1, r - S.size, by omega, by go_num, rfl, by omega, by omega, show _ = _ by rw [hst.out]; have := hsum.out; omega⟩
          case measure => simp only [intOf]; omega
      · go_wp2
        go_ret
        refine ⟨r, rfl, .inr ⟨hr0, ?_⟩, Below.refl _ _⟩
        have h2 := hsum.out
        rw [List.take_of_length_le (by have := (HL.out).1; omega)] at h2
        have := (HL.out).1
        unfold wStrs
        omega
end Go.Proofs.Ytjdncobdecdhmaa
