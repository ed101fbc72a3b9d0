/-
  Statistics: words, opening, size, comparison.
-/
import Derived.Test.YtjdncobdecdhmaaSchema
import Derived.Test.YtjdncobdecdhmaaEx2
namespace Go.Proofs.Ytjdncobdecdhmaa
open Go.ChangeShapes Go.WideShapes Go.ChangeAt Go.RowKit Go.Deep Go.Joins
set_option maxRecDepth 100000

structure StatsD where
  totals : List Int
  cells : List (List Int)
def wRows (l : List (List Int)) : Nat := l.length + (l.map List.length).sum
def wStats (d : StatsD) : Nat := d.totals.length + wRows d.cells
def RowN (w : World) (cs : List Value) (l : List Int) : Prop := ∃ A n c, cs = [.slice A n c] ∧ n ≤ 1048576 ∧ Ints w A n l
abbrev RowsM := Slc 1 RowN
theorem RowsM.keep {w w' : World} {A : Option Addr} {n : Nat} {l : List (List Int)} (h : RowsM w A n l) (hb : Below w.heap.size w w') : RowsM w' A n l :=
  h.mono (fun _ _ ⟨A1, n1, c1, e, h1, hh⟩ => ⟨A1, n1, c1, e, h1, hh.keep hb⟩) hb
theorem IntRows.at_ {w : World} {A : Option Addr} {n : Nat} {l : List (List Int)} (h : IntRows w A n l) {k : Nat} (hk : k < n) : ∃ ad A' n' c', A = some ad ∧ ad.block < w.heap.size ∧
    w.cell? (ad.add k) = some (.slice A' n' c') ∧ n' ≤ maxLen ∧ Ints w A' n' (l[k]?.getD []) := by
  obtain ⟨ad, e, hlt, hc⟩ := h.2 (by omega)
  have hk' : k < l.length := by have := h.1; omega
  obtain ⟨cs, _, ⟨A', n', c', he, hm, hi⟩, hj⟩ := hc k hk'
  subst he
  rw [getD_of_lt hk']
  exact ⟨ad, A', n', c', e, hlt, by simpa using hj 0 _ rfl, hm, hi⟩
theorem RowsM.at_ {w : World} {A : Option Addr} {n : Nat} {l : List (List Int)} (h : RowsM w A n l) {k : Nat} (hk : k < n) : ∃ ad A' n' c', A = some ad ∧ ad.block < w.heap.size ∧
    w.cell? (ad.add k) = some (.slice A' n' c') ∧ n' ≤ 1048576 ∧ Ints w A' n' (l[k]?.getD []) := by
  obtain ⟨ad, e, hlt, hc⟩ := h.2 (by omega)
  have hk' : k < l.length := by have := h.1; omega
  obtain ⟨cs, _, ⟨A', n', c', he, hm, hi⟩, hj⟩ := hc k hk'
  subst he
  rw [getD_of_lt hk']
  exact ⟨ad, A', n', c', e, hlt, by simpa using hj 0 _ rfl, hm, hi⟩
theorem IntRows.small {w : World} {A : Option Addr} {n : Nat} {l : List (List Int)} (h : IntRows w A n l) (hw : wRows l ≤ 1048576) : RowsM w A n l :=
  ⟨h.1, fun hn => by
    obtain ⟨ad, e, hlt, hc⟩ := h.2 hn
    refine ⟨ad, e, hlt, fun i hi => ?_⟩
    obtain ⟨cs, h1, ⟨A1, n1, c1, he, hm, hI⟩, h3⟩ := hc i hi
    have := sum_ge (f := List.length) (List.getElem_mem hi)
    have e1 := hI.1
    unfold wRows at hw
    exact ⟨cs, h1, ⟨A1, n1, c1, he, by omega, hI⟩, h3⟩⟩

def StatsI (w : World) (x0 x1 : Value) (d : StatsD) : Prop := ∃ A n c B m k, x0 = .slice A n c ∧ x1 = .slice B m k ∧ Ints w A n d.totals ∧ n ≤ maxLen ∧ IntRows w B m d.cells ∧ m ≤ maxLen
def StatsM (w : World) (x0 x1 : Value) (d : StatsD) : Prop := ∃ A n c B m k, x0 = .slice A n c ∧ x1 = .slice B m k ∧ Ints w A n d.totals ∧ n ≤ 1048576 ∧ RowsM w B m d.cells ∧ m ≤ 1048576
theorem StatsI.keep {w w' : World} {x0 x1 : Value} {d : StatsD} (h : StatsI w x0 x1 d) (hb : Below w.heap.size w w') : StatsI w' x0 x1 d := by
  obtain ⟨A, n, c, B, m, k, h1, h2, h3, h4, h5, h6⟩ := h
  exact ⟨A, n, c, B, m, k, h1, h2, h3.keep hb, h4, h5.keep hb, h6⟩
theorem StatsM.keep {w w' : World} {x0 x1 : Value} {d : StatsD} (h : StatsM w x0 x1 d) (hb : Below w.heap.size w w') : StatsM w' x0 x1 d := by
  obtain ⟨A, n, c, B, m, k, h1, h2, h3, h4, h5, h6⟩ := h
  exact ⟨A, n, c, B, m, k, h1, h2, h3.keep hb, h4, h5.keep hb, h6⟩
theorem StatsM.one {w : World} {x0 x1 : Value} {d : StatsD} (h : StatsM w x0 x1 d) : x0.oneCell' = true ∧ x1.oneCell' = true := by
  obtain ⟨A, n, c, B, m, k, rfl, rfl, _⟩ := h
  exact ⟨rfl, rfl⟩
theorem StatsI.small {w : World} {x0 x1 : Value} {d : StatsD} (h : StatsI w x0 x1 d) (hw : wStats d ≤ 1048576) : StatsM w x0 x1 d := by
  obtain ⟨A, n, c, B, m, k, h1, h2, h3, h4, h5, h6⟩ := h
  have e1 := h3.1
  have e2 := h5.1
  unfold wStats at hw
  refine ⟨A, n, c, B, m, k, h1, h2, h3, by omega, h5.small (by omega), ?_⟩
  unfold wRows at hw
  omega

section
variable {H : Type} {enc : TypeId × Value → H} {w : World} {base : Nat} {spare : Nat → Bool} {held : Bool}

end

set_option maxHeartbeats 1000000 in
theorem eqIntSS_any (A B : Option Addr) (n m c d : Nat) (l r : List (List Int)) (w : World) (hl : RowsM w A n l) (hr : RowsM w B m r) (hn : n ≤ 2097152) (hm : m ≤ 2097152) :
    Calls Try.prog 57 #[.slice A n c, .slice B m d] w fun e w' => e = .returned (.bool (decide (l = r))) ∧ ∃ q, w' = w.drewN q := by
  have HL := hide hl
  have HR := hide hr
  clear hl hr
  by_cases hnm : n = m
  · subst hnm
    go_enter Try.func57, Try.ntmps57
    go_wp2
    go_loopw [5] (fun i wr => ∃ k : Nat, k ≤ n ∧ i = .int .i64 k ∧ l.take k = r.take k ∧ ∃ q, wr = w.drewN q) (fun i _ => n - (intOf i).toNat)
    case atStart => exact ⟨0, Nat.zero_le _, rfl, by simp, 0, rfl⟩
    case round =>
      obtain ⟨k, hk, rfl, htk, q, rfl⟩ := hrel
      have HT := hide htk
      clear htk
      by_cases hlt : k < n
      · obtain ⟨a1, A1, n1, c1, rfl, _, hc1, hn1, hI1⟩ := (HL.out).at_ hlt
        obtain ⟨a2, A2, n2, c2, rfl, _, hc2, hn2, hI2⟩ := (HR.out).at_ hlt
        have H1 := hide hI1
        have H2 := hide hI2
        clear hI1 hI2
        have hi0 : (0 : Int) ≤ k := by omega
        have hi1 : (k : Int) < n := by omega
        by_cases he : l[k]?.getD [] = r[k]?.getD []
        · have HS := hide (take_eq_step [] (by have := HL.out.1; omega) (by have := HR.out.1; omega) HT.out he)
          have HE := hide (show decide (l[k]?.getD [] = r[k]?.getD []) = true by simpa using he)
          clear he
          go_wp2
          go_quiet ((go_at_call 15; exact quiet_add ((eqIntS_any A1 A2 n1 n2 c1 c2 _ _ _ (H1.out.keep (below_drewN (Below.refl _ _) _)) (H2.out.keep (below_drewN (Below.refl _ _) _)) (by omega) (by omega)).mono fun _ _ h => ⟨h.1.trans (ret_bool HE.out), h.2⟩)))
          go_wp2
          go_roundw
          case rel => exact ⟨k + 1, by omega, by go_num, HS.out, _, rfl⟩
          case measure => simp [intOf]; omega
        · have HS := hide (take_ne_step [] he)
          have HE := hide (show decide (l[k]?.getD [] = r[k]?.getD []) = false by simpa using he)
          clear he
          go_wp2
          go_quiet ((go_at_call 15; exact quiet_add ((eqIntS_any A1 A2 n1 n2 c1 c2 _ _ _ (H1.out.keep (below_drewN (Below.refl _ _) _)) (H2.out.keep (below_drewN (Below.refl _ _) _)) (by omega) (by omega)).mono fun _ _ h => ⟨h.1.trans (ret_bool HE.out), h.2⟩)))
          go_wp2
          go_ret
          exact ⟨ret_bool (by simp [HS.out]), _, World.drewN_drewN _ _ _⟩
      · have HS := hide (show l = r by
          have h := HT.out
          rwa [List.take_of_length_le (by have := HL.out.1; omega), List.take_of_length_le (by have := HR.out.1; omega)] at h)
        go_wp2
        go_ret
        exact ⟨ret_bool (by simp [HS.out]), _, rfl⟩
  · have HS := hide (show ¬ l = r by
      rintro rfl
      exact hnm (by have := HL.out.1; have := HR.out.1; omega))
    have hne : ((n : Int) != (m : Int)) = true := by rw [bne_iff_ne]; omega
    clear hnm
    go_enter Try.func57, Try.ntmps57
    go_wp2
    go_ret
    exact ⟨ret_bool (by simp [HS.out]), 0, rfl⟩
end Go.Proofs.Ytjdncobdecdhmaa
