/-
  Contracts: texts as bytes, read.
-/
import Derived.Test.YtohodehmidbmlaaDoorGet
import Derived.Laws.IdiomStrings
namespace Go.Proofs.YtohodehmidbmlaaDoor
open Go.RowKit

/-- The text whose bytes begin at a place, and the place behind it. -/
def getT (l : List UInt8) (x : Int) : Option (ByteArray × Nat) :=
  match getD l x with
  | none => none
  | some (n, p) => if n + p ≤ l.length then some (⟨((l.drop p).take n).toArray⟩, p + n) else none
def tripT : Option (ByteArray × Nat) → Value
  | none => .tuple #[.string ⟨#[]⟩, .int .i64 0, .bool false]
  | some (s, p) => .tuple #[.string s, .int .i64 p, .bool true]

theorem getN_le {l : List UInt8} {a : Nat} : ∀ (f k n N p : Nat), getN l a f k n = some (N, p) → p ≤ l.length ∧ N ≤ 2147483647 ∧ 0 < p
  | 0, _, _, _, _, h => by simp [getN] at h
  | f + 1, k, n, N, p, h => by
    rw [getN] at h
    split at h
    · rename_i hlt
      split at h
      · exact getN_le f _ _ _ _ h
      · split at h
        · simp at h
        · rename_i h2
          simp only [Option.some.injEq, Prod.mk.injEq] at h
          omega
    · simp at h
theorem getD_le {l : List UInt8} {x : Int} {N p : Nat} (h : getD l x = some (N, p)) : p ≤ l.length ∧ N ≤ 2147483647 ∧ 0 < p := by
  unfold getD at h
  split at h
  · simp at h
  · exact getN_le _ _ _ _ _ h

set_option maxRecDepth 100000 in
set_option maxHeartbeats 4000000 in
theorem implGetText_any (A : Option Addr) (n c : Nat) (l : List UInt8) (x : Int) (w : World) (hl : Bytes w A n l) (hn : n ≤ 2097152) (hnc : n ≤ c) (hc : c ≤ 9223372036854775807) (hx1 : x ≤ 9223372036854775807) :
    Calls Tryd.prog 58 #[.slice A n c, .int .i64 x] w fun e w' => e = .returned (tripT (getT l x)) ∧ w = w' := by
  have HL := hide hl
  clear hl
  rcases hg : getD l x with _ | ⟨N, p⟩
  · have HT := hide (show getT l x = none by rw [getT, hg])
    have HG := hide hg
    clear hg
    go_enter Tryd.func58, Tryd.ntmps58
    go_wp2_with (fail)
    refine (implGetNum_any _ _ _ l _ _ HL.out hn hx1).mono ?_
    rintro e w' ⟨rfl, rfl⟩
    rw [HG.out]
    simp only [tripO]
    go_wp2
    exact bodyPost_ret (results_tmp3 rfl _ _ _) rfl ⟨by rw [HT.out]; rfl, rfl⟩
  · obtain ⟨hp1, hp2, hp3⟩ := getD_le hg
    have hln := hide (show l.length = n by have := (HL.out).1; omega)
    have hpn : p ≤ n := by have := hln.out; omega
    clear hp1
    by_cases hfit : N + p ≤ n
    · have HT := hide (show getT l x = some (⟨((l.drop p).take N).toArray⟩, p + N) by rw [getT, hg]; simp only; rw [if_pos (by rw [hln.out]; omega)])
      have HG := hide hg
      clear hg
      obtain ⟨ad, rfl, _, _⟩ := (HL.out).at_ (k := 0) (by omega)
      by_cases hcp : c = p
      · subst hcp
        obtain rfl : N = 0 := by omega
        have hconv := run_convert_bytes_back (P := Tryd.prog) w 26 9 5 ad 0 [] Tryd.underlying26 Tryd.underlying5 Tryd.underlying9 (fun j hj => by simp at hj)
        simp only [List.length_nil] at hconv
        go_enter Tryd.func58, Tryd.ntmps58
        go_wp2_with (fail)
        refine (implGetNum_any _ _ _ l _ _ HL.out hn hx1).mono ?_
        rintro e w' ⟨rfl, rfl⟩
        rw [HG.out]
        simp only [tripO]
        go_wp2
        exact bodyPost_ret (results_tmp3 rfl _ _ _) rfl ⟨by rw [HT.out]; rfl, rfl⟩
      · have hconv := run_convert_bytes_back (P := Tryd.prog) w 26 9 5 (ad.add p) (c - p) ((l.drop p).take N) Tryd.underlying26 Tryd.underlying5 Tryd.underlying9 (fun j hj => by
          have hj' : j < N ∧ p + j < l.length := by
            rw [List.length_take, List.length_drop] at hj; omega
          obtain ⟨ad', e, _, hc'⟩ := (HL.out).at_ (k := p + j) (by have := hln.out; omega)
          injection e with e
          subst e
          rw [add_of_add, hc']
          rw [List.getElem?_eq_getElem hj'.2]
          simp)
        have hlen : ((l.drop p).take N).length = N := by rw [List.length_take, List.length_drop]; have := hln.out; omega
        rw [hlen] at hconv
        clear hlen
        go_enter Tryd.func58, Tryd.ntmps58
        go_wp2_with (fail)
        refine (implGetNum_any _ _ _ l _ _ HL.out hn hx1).mono ?_
        rintro e w' ⟨rfl, rfl⟩
        rw [HG.out]
        simp only [tripO]
        go_wp2
        exact bodyPost_ret (results_tmp3 rfl _ _ _) rfl ⟨by rw [HT.out]; rfl, rfl⟩
    · have HT := hide (show getT l x = none by rw [getT, hg]; simp only; rw [if_neg (by rw [hln.out]; omega)])
      have HG := hide hg
      clear hg
      go_enter Tryd.func58, Tryd.ntmps58
      go_wp2_with (fail)
      refine (implGetNum_any _ _ _ l _ _ HL.out hn hx1).mono ?_
      rintro e w' ⟨rfl, rfl⟩
      rw [HG.out]
      simp only [tripO]
      go_wp2
      exact bodyPost_ret (results_tmp3 rfl _ _ _) rfl ⟨by rw [HT.out]; rfl, rfl⟩

end Go.Proofs.YtohodehmidbmlaaDoor
