/-
  Contracts: equal statistics.
-/
import Derived.Test.YtnnhngdconbbfaaStats3
namespace Go.Proofs.Ytnnhngdconbbfaa
open Go.RowKit
set_option maxRecDepth 100000

def statsSameB (d e : StatsD) : Bool := decide (d.totals = e.totals) && decide (d.cells = e.cells)

theorem sameLists1_any (A B : Option Addr) (n m c d : Nat) (l r : List Int) (w : World) (hl : Ints w A n l) (hr : Ints w B m r) (hn : n ≤ 2097152) (hm : m ≤ 2097152) :
    Calls Try.prog 176 #[.slice A n c, .slice B m d] w fun e w' => e = .returned (.bool (decide (l = r))) ∧ ∃ q, w' = w.drewN q := by
  have HL := hide hl
  have HR := hide hr
  clear hl hr
  go_enter Try.func176, Try.ntmps176
  go_wp2_with (fail)
  refine (equalInts_any A B n m c d l r _ HL.out HR.out hn hm).mono ?_
  rintro e w' ⟨rfl, q, rfl⟩
  go_wp2
  go_ret
  exact ⟨rfl, q, rfl⟩

set_option maxHeartbeats 1000000 in
theorem eqFuncRows_any (A B : Option Addr) (n m c d : Nat) (l r : List (List Int)) (w : World) (hl : RowsM w A n l) (hr : RowsM w B m r) (hn : n ≤ 2097152) (hm : m ≤ 2097152) :
    Calls Try.prog 175 #[.slice A n c, .slice B m d, .func (.func 176) #[] #[]] w fun e w' => e = .returned (.bool (decide (l = r))) ∧ ∃ q, w' = w.drewN q := by
  have hcf := Try.call176
  have HL := hide hl
  have HR := hide hr
  clear hl hr
  by_cases hnm : n = m
  · subst hnm
    go_enter Try.func175, Try.ntmps175
    go_wp2
    go_loopw [17] (fun i wr => ∃ k : Nat, k ≤ n ∧ i = .int .i64 k ∧ l.take k = r.take k ∧ ∃ q, wr = w.drewN q) (fun i _ => n - (intOf i).toNat)
    case atStart => exact ⟨0, Nat.zero_le _, rfl, by simp, 0, rfl⟩
    case round =>
      obtain ⟨k, hk, rfl, htk, q, rfl⟩ := hrel
      have HT := hide htk
      clear htk
      by_cases hlt : k < n
      · obtain ⟨a1, A1, n1, c1, rfl, _, hc1, hn1, hI1⟩ := (HL.out).at_ hlt
        obtain ⟨a2, A2, n2, c2, rfl, _, hc2, hn2, hI2⟩ := (HR.out).at_ hlt
        have H1 := hide hI1
        have H2 := hide hI2
        clear hI1 hI2
        have hi0 : (0 : Int) ≤ k := by omega
        have hi1 : (k : Int) < n := by omega
        by_cases he : l[k]?.getD [] = r[k]?.getD []
        · have HS := hide (take_eq_step [] (by have := HL.out.1; omega) (by have := HR.out.1; omega) HT.out he)
          have HE := hide (show decide (l[k]?.getD [] = r[k]?.getD []) = true by simpa using he)
          clear he
          go_wp2_with (fail)
          refine (sameLists1_any A1 A2 n1 n2 c1 c2 _ _ _ (H1.out.keep (below_drewN (Below.refl _ _) _)) (H2.out.keep (below_drewN (Below.refl _ _) _)) (by omega) (by omega)).mono ?_
          rintro e w' ⟨rfl, q', rfl⟩
          rw [HE.out]
          go_wp2
          go_roundw
          case rel => exact ⟨k + 1, by omega, by go_num, HS.out, _, rfl⟩
          case measure => simp [intOf]; omega
        · have HS := hide (take_ne_step [] he)
          have HE := hide (show decide (l[k]?.getD [] = r[k]?.getD []) = false by simpa using he)
          clear he
          go_wp2_with (fail)
          refine (sameLists1_any A1 A2 n1 n2 c1 c2 _ _ _ (H1.out.keep (below_drewN (Below.refl _ _) _)) (H2.out.keep (below_drewN (Below.refl _ _) _)) (by omega) (by omega)).mono ?_
          rintro e w' ⟨rfl, q', rfl⟩
          rw [HE.out]
          go_wp2
          go_ret
          exact ⟨ret_bool (by simp [HS.out]), _, rfl⟩
      · have HS := hide (show l = r by
          have h := HT.out
          rwa [List.take_of_length_le (by have := HL.out.1; omega), List.take_of_length_le (by have := HR.out.1; omega)] at h)
        go_wp2
        go_ret
        exact ⟨ret_bool (by simp [HS.out]), _, rfl⟩
  · have HS := hide (show ¬ l = r by
      rintro rfl
      exact hnm (by have := HL.out.1; have := HR.out.1; omega))
    have hne : ((n : Int) != (m : Int)) = true := by rw [bne_iff_ne]; omega
    clear hnm
    go_enter Try.func175, Try.ntmps175
    go_wp2
    go_ret
    exact ⟨ret_bool (by simp [HS.out]), 0, rfl⟩

theorem sameLists_any (A B : Option Addr) (n m c d : Nat) (l r : List (List Int)) (w : World) (hl : RowsM w A n l) (hr : RowsM w B m r) (hn : n ≤ 2097152) (hm : m ≤ 2097152) :
    Calls Try.prog 148 #[.slice A n c, .slice B m d] w fun e w' => e = .returned (.bool (decide (l = r))) ∧ ∃ q, w' = w.drewN q := by
  have HL := hide hl
  have HR := hide hr
  clear hl hr
  go_enter Try.func148, Try.ntmps148
  go_wp2_with (fail)
  refine (eqFuncRows_any A B n m c d l r _ HL.out HR.out hn hm).mono ?_
  rintro e w' ⟨rfl, q, rfl⟩
  go_wp2
  go_ret
  exact ⟨rfl, q, rfl⟩

set_option maxHeartbeats 1000000 in
theorem implStatsSame_any (x0 x1 y0 y1 : Value) (d e : StatsD) (w : World) (h : StatsM w x0 x1 d) (h' : StatsM w y0 y1 e) :
    Calls Try.prog 91 #[.agg #[x0, x1], .agg #[y0, y1]] w fun r w' => r = .returned (.bool (statsSameB d e)) ∧ Below w.heap.size w w' := by
  obtain ⟨A, n, c, D, m, k, rfl, rfl, hl, hn, hr, hm⟩ := h
  obtain ⟨A', n', c', D', m', k', rfl, rfl, hl', hn', hr', hm'⟩ := h'
  have hbox : Below w.heap.size w ((w.alloc (.cells #[.slice A n c, .slice D m k] 77)).alloc (.cells #[.slice A' n' c', .slice D' m' k'] 77)) := ((Below.refl _ _).alloc (Nat.le_refl _) _).alloc (by simp) _
  have HL := hide (hl.keep hbox)
  have HL' := hide (hl'.keep hbox)
  have HR := hide (hr.keep hbox)
  have HR' := hide (hr'.keep hbox)
  clear hl hr hl' hr'
  cases hq : decide (d.totals = e.totals)
  · have hfin := hide (show statsSameB d e = false by rw [statsSameB, hq]; rfl)
    have HQ := hide hq
    clear hq
    go_enter Try.func91, Try.ntmps91
    go_wp2_with (fail)
    refine (equalInts_any A A' n n' c c' d.totals e.totals _ HL.out HL'.out (by omega) (by omega)).mono ?_
    rintro e w' ⟨rfl, q, rfl⟩
    rw [HQ.out]
    go_wp2
    go_ret
    exact ⟨ret_bool hfin.out.symm, below_drewN hbox _⟩
  · have hfin := hide (show statsSameB d e = decide (d.cells = e.cells) by rw [statsSameB, hq]; rfl)
    have HQ := hide hq
    clear hq
    go_enter Try.func91, Try.ntmps91
    go_wp2_with (fail)
    refine (equalInts_any A A' n n' c c' d.totals e.totals _ HL.out HL'.out (by omega) (by omega)).mono ?_
    rintro e w' ⟨rfl, q, rfl⟩
    rw [HQ.out]
    go_wp2_with (fail)
    refine (sameLists_any D D' m m' k k' _ _ _ (HR.out.keep (below_drewN (Below.refl _ _) _)) (HR'.out.keep (below_drewN (Below.refl _ _) _)) (by omega) (by omega)).mono ?_
    rintro e w' ⟨rfl, q', rfl⟩
    go_wp2
    go_ret
    exact ⟨ret_bool hfin.out.symm, below_drewN hbox _⟩

set_option maxHeartbeats 2000000 in
theorem specStatsSame_any (x0 x1 y0 y1 : Value) (d e : StatsD) (w : World) (h : StatsM w x0 x1 d) (h' : StatsM w y0 y1 e) :
    Calls Try.prog 89 #[.agg #[x0, x1], .agg #[y0, y1]] w fun r w' => r = .returned (.bool (statsSameB d e)) ∧ Below w.heap.size w w' := by
  obtain ⟨A, n, c, D, m, k, rfl, rfl, hl, hn, hr, hm⟩ := h
  obtain ⟨A', n', c', D', m', k', rfl, rfl, hl', hn', hr', hm'⟩ := h'
  have hbox : Below w.heap.size w ((w.alloc (.cells #[.slice A n c, .slice D m k] 77)).alloc (.cells #[.slice A' n' c', .slice D' m' k'] 77)) := ((Below.refl _ _).alloc (Nat.le_refl _) _).alloc (by simp) _
  obtain ⟨W, hW⟩ : ∃ W, W = ((w.alloc (.cells #[.slice A n c, .slice D m k] 77)).alloc (.cells #[.slice A' n' c', .slice D' m' k'] 77)) := ⟨_, rfl⟩
  have hX := (Box2.new w (.slice A n c) (.slice D m k) 77).keep (Below.alloc (Below.refl _ _) (Nat.le_refl _) (.cells #[.slice A' n' c', .slice D' m' k'] 77))
  have hY := Box2.new (w.alloc (.cells #[.slice A n c, .slice D m k] 77)) (.slice A' n' c') (.slice D' m' k') 77
  have hz : (w.alloc (.cells #[.slice A n c, .slice D m k] 77)).heap.size = w.heap.size + 1 := by simp
  rw [hz] at hY
  clear hz
  rw [← hW] at hX hY
  have HL := hide (hl.keep hbox)
  have HL' := hide (hl'.keep hbox)
  have HR := hide (hr.keep hbox)
  have HR' := hide (hr'.keep hbox)
  rw [← hW] at HL HL' HR HR' hbox
  have HW := hide hW
  clear hl hr hl' hr' hW
  cases hq : decide (d.totals = e.totals)
  · have hfin := hide (show statsSameB d e = false by rw [statsSameB, hq]; rfl)
    have HQ := hide hq
    clear hq
    go_enter Try.func89, Try.ntmps89
    go_wp2_with (fail)
    rw [← HW.out]
    refine (sameInts_any A A' n n' c c' d.totals e.totals _ HL.out HL'.out (by omega) (by omega)).mono ?_
    rintro e w' ⟨rfl, q, rfl⟩
    rw [HQ.out]
    go_wp2
    go_ret
    exact ⟨ret_bool hfin.out.symm, below_drewN hbox _⟩
  · have HQ := hide hq
    have hfin := hide (show statsSameB d e = decide (d.cells = e.cells) by rw [statsSameB, hq]; rfl)
    clear hq
    obtain ⟨k0, k1, k2⟩ := hX
    obtain ⟨j0, j1, j2⟩ := hY
    by_cases hmm : m = m'
    · subst hmm
      go_enter Try.func89, Try.ntmps89
      go_wp2_with (fail)
      rw [← HW.out]
      refine (sameInts_any A A' n n' c c' d.totals e.totals _ HL.out HL'.out (by omega) (by omega)).mono ?_
      rintro e w' ⟨rfl, q, rfl⟩
      rw [HQ.out]
      go_wp2
      go_loopw [5] (fun i wr => ∃ K : Nat, K ≤ m ∧ i = .int .i64 K ∧ d.cells.take K = e.cells.take K ∧ ∃ q, wr = W.drewN q) (fun i _ => m - (intOf i).toNat)
      case atStart => exact ⟨0, Nat.zero_le _, rfl, by simp, q, rfl⟩
      case round =>
        obtain ⟨K, hk, rfl, htk, q, rfl⟩ := hrel
        have HT := hide htk
        clear htk
        by_cases hlt : K < m
        · obtain ⟨a1, A1, n1, c1, rfl, _, hc1, hn1, hI1⟩ := (HR.out).at_ hlt
          obtain ⟨a2, A2, n2, c2, rfl, _, hc2, hn2, hI2⟩ := (HR'.out).at_ hlt
          have H1 := hide hI1
          have H2 := hide hI2
          clear hI1 hI2
          have hi0 : (0 : Int) ≤ K := by omega
          have hi1 : (K : Int) < m := by omega
          by_cases he : d.cells[K]?.getD [] = e.cells[K]?.getD []
          · have HS := hide (take_eq_step [] (by have := HR.out.1; omega) (by have := HR'.out.1; omega) HT.out he)
            have HE := hide (show decide (d.cells[K]?.getD [] = e.cells[K]?.getD []) = true by simpa using he)
            clear he
            go_wp2
            go_quiet ((go_at_call 142; exact quiet_add ((sameInts_any A1 A2 n1 n2 c1 c2 _ _ _ (H1.out.keep (below_drewN (Below.refl _ _) _)) (H2.out.keep (below_drewN (Below.refl _ _) _)) (by omega) (by omega)).mono fun _ _ h => ⟨h.1.trans (ret_bool HE.out), h.2⟩)))
            go_wp2
            go_roundw
            case rel => exact ⟨K + 1, by omega, by go_num, HS.out, _, rfl⟩
            case measure => simp [intOf]; omega
          · have HS := hide (take_ne_step [] he)
            have HE := hide (show decide (d.cells[K]?.getD [] = e.cells[K]?.getD []) = false by simpa using he)
            clear he
            go_wp2
            go_quiet ((go_at_call 142; exact quiet_add ((sameInts_any A1 A2 n1 n2 c1 c2 _ _ _ (H1.out.keep (below_drewN (Below.refl _ _) _)) (H2.out.keep (below_drewN (Below.refl _ _) _)) (by omega) (by omega)).mono fun _ _ h => ⟨h.1.trans (ret_bool HE.out), h.2⟩)))
            go_wp2
            go_ret
            exact ⟨ret_bool (by rw [hfin.out]; simp [HS.out]), below_drewN (below_drewN hbox _) _⟩
        · have HS := hide (show d.cells = e.cells by
            have h := HT.out
            rwa [List.take_of_length_le (by have := HR.out.1; omega), List.take_of_length_le (by have := HR'.out.1; omega)] at h)
          go_wp2
          go_ret
          exact ⟨ret_bool (by rw [hfin.out]; simp [HS.out]), below_drewN hbox _⟩
    · have HS := hide (show ¬ d.cells = e.cells by
        intro h
        have h1 := HR.out.1
        have h2 := HR'.out.1
        rw [h] at h1
        omega)
      have hne : ((m : Int) != (m' : Int)) = true := by rw [bne_iff_ne]; omega
      clear hmm
      go_enter Try.func89, Try.ntmps89
      go_wp2_with (fail)
      rw [← HW.out]
      refine (sameInts_any A A' n n' c c' d.totals e.totals _ HL.out HL'.out (by omega) (by omega)).mono ?_
      rintro e w' ⟨rfl, q, rfl⟩
      rw [HQ.out]
      go_wp2
      go_ret
      exact ⟨ret_bool (by rw [hfin.out]; simp [HS.out]), below_drewN hbox _⟩
end Go.Proofs.Ytnnhngdconbbfaa
