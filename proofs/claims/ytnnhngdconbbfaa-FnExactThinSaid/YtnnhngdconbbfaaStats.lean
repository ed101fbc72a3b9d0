/-
  Statistics: words, opening, size, comparison.
-/
import Derived.Test.YtnnhngdconbbfaaSchema
import Derived.Test.YtnnhngdconbbfaaEx2
namespace Go.Proofs.Ytnnhngdconbbfaa
open Go.ChangeShapes Go.WideShapes Go.ChangeAt Go.RowKit Go.Deep Go.Joins
set_option maxRecDepth 100000

structure StatsD where
  totals : List Int
  cells : List (List Int)
def wRows (l : List (List Int)) : Nat := l.length + (l.map List.length).sum
def wStats (d : StatsD) : Nat := d.totals.length + wRows d.cells
def RowN (w : World) (cs : List Value) (l : List Int) : Prop := ∃ A n c, cs = [.slice A n c] ∧ n ≤ 1048576 ∧ Ints w A n l
abbrev RowsM := Slc 1 RowN
theorem RowsM.keep {w w' : World} {A : Option Addr} {n : Nat} {l : List (List Int)} (h : RowsM w A n l) (hb : Below w.heap.size w w') : RowsM w' A n l :=
  h.mono (fun _ _ ⟨A1, n1, c1, e, h1, hh⟩ => ⟨A1, n1, c1, e, h1, hh.keep hb⟩) hb
theorem IntRows.at_ {w : World} {A : Option Addr} {n : Nat} {l : List (List Int)} (h : IntRows w A n l) {k : Nat} (hk : k < n) : ∃ ad A' n' c', A = some ad ∧ ad.block < w.heap.size ∧
    w.cell? (ad.add k) = some (.slice A' n' c') ∧ n' ≤ maxLen ∧ Ints w A' n' (l[k]?.getD []) := by
  obtain ⟨ad, e, hlt, hc⟩ := h.2 (by omega)
  have hk' : k < l.length := by have := h.1; omega
  obtain ⟨cs, _, ⟨A', n', c', he, hm, hi⟩, hj⟩ := hc k hk'
  subst he
  rw [getD_of_lt hk']
  exact ⟨ad, A', n', c', e, hlt, by simpa using hj 0 _ rfl, hm, hi⟩
theorem RowsM.at_ {w : World} {A : Option Addr} {n : Nat} {l : List (List Int)} (h : RowsM w A n l) {k : Nat} (hk : k < n) : ∃ ad A' n' c', A = some ad ∧ ad.block < w.heap.size ∧
    w.cell? (ad.add k) = some (.slice A' n' c') ∧ n' ≤ 1048576 ∧ Ints w A' n' (l[k]?.getD []) := by
  obtain ⟨ad, e, hlt, hc⟩ := h.2 (by omega)
  have hk' : k < l.length := by have := h.1; omega
  obtain ⟨cs, _, ⟨A', n', c', he, hm, hi⟩, hj⟩ := hc k hk'
  subst he
  rw [getD_of_lt hk']
  exact ⟨ad, A', n', c', e, hlt, by simpa using hj 0 _ rfl, hm, hi⟩
theorem IntRows.small {w : World} {A : Option Addr} {n : Nat} {l : List (List Int)} (h : IntRows w A n l) (hw : wRows l ≤ 1048576) : RowsM w A n l :=
  ⟨h.1, fun hn => by
    obtain ⟨ad, e, hlt, hc⟩ := h.2 hn
    refine ⟨ad, e, hlt, fun i hi => ?_⟩
    obtain ⟨cs, h1, ⟨A1, n1, c1, he, hm, hI⟩, h3⟩ := hc i hi
    have := sum_ge (f := List.length) (List.getElem_mem hi)
    have e1 := hI.1
    unfold wRows at hw
    exact ⟨cs, h1, ⟨A1, n1, c1, he, by omega, hI⟩, h3⟩⟩

def StatsI (w : World) (x0 x1 : Value) (d : StatsD) : Prop := ∃ A n c B m k, x0 = .slice A n c ∧ x1 = .slice B m k ∧ Ints w A n d.totals ∧ n ≤ maxLen ∧ IntRows w B m d.cells ∧ m ≤ maxLen
def StatsM (w : World) (x0 x1 : Value) (d : StatsD) : Prop := ∃ A n c B m k, x0 = .slice A n c ∧ x1 = .slice B m k ∧ Ints w A n d.totals ∧ n ≤ 1048576 ∧ RowsM w B m d.cells ∧ m ≤ 1048576
theorem StatsI.keep {w w' : World} {x0 x1 : Value} {d : StatsD} (h : StatsI w x0 x1 d) (hb : Below w.heap.size w w') : StatsI w' x0 x1 d := by
  obtain ⟨A, n, c, B, m, k, h1, h2, h3, h4, h5, h6⟩ := h
  exact ⟨A, n, c, B, m, k, h1, h2, h3.keep hb, h4, h5.keep hb, h6⟩
theorem StatsM.keep {w w' : World} {x0 x1 : Value} {d : StatsD} (h : StatsM w x0 x1 d) (hb : Below w.heap.size w w') : StatsM w' x0 x1 d := by
  obtain ⟨A, n, c, B, m, k, h1, h2, h3, h4, h5, h6⟩ := h
  exact ⟨A, n, c, B, m, k, h1, h2, h3.keep hb, h4, h5.keep hb, h6⟩
theorem StatsM.one {w : World} {x0 x1 : Value} {d : StatsD} (h : StatsM w x0 x1 d) : x0.oneCell' = true ∧ x1.oneCell' = true := by
  obtain ⟨A, n, c, B, m, k, rfl, rfl, _⟩ := h
  exact ⟨rfl, rfl⟩
theorem StatsI.small {w : World} {x0 x1 : Value} {d : StatsD} (h : StatsI w x0 x1 d) (hw : wStats d ≤ 1048576) : StatsM w x0 x1 d := by
  obtain ⟨A, n, c, B, m, k, h1, h2, h3, h4, h5, h6⟩ := h
  have e1 := h3.1
  have e2 := h5.1
  unfold wStats at hw
  refine ⟨A, n, c, B, m, k, h1, h2, h3, by omega, h5.small (by omega), ?_⟩
  unfold wRows at hw
  omega

section
variable {H : Type} {enc : TypeId × Value → H} {w : World} {base : Nat} {spare : Nat → Bool} {held : Bool}
theorem rows_of_trod {cs : List Value} {n : Nat} {y : DataW H × List MemPlace} (h : DataW.trod enc Try.prog w base spare held n 72 cs = some y) : ∃ A n c l, cs = [.slice A n c] ∧ n ≤ c ∧ c ≤ maxLen ∧ IntRows w A n l :=
  slc_of_trod Try.underlying72 cellsIntS (by omega) (fun _ _ _ => rowE_of_trod) h
theorem open_stats {b0 : Nat} {r : Reach} {v : Value} {d : DataW H} {p : List MemPlace} (hv : Value.okWide Try.prog w r b0 74 v) (h : DataW.Trod enc Try.prog w base spare held 74 v d p) :
    ∃ (x0 x1 : Value) (d : StatsD), v = .agg #[x0, x1] ∧ StatsI w x0 x1 d := by
  obtain ⟨u0, u1, y0, y1, n, rfl, _, _, h0, h1⟩ := open_agg2 Try.underlying74 (by kernel_rfl) (show Try.prog.cellsOf 74 = 2 by kernel_rfl) hv h
  obtain ⟨A1, n1, c1, l1, k1, k2, k3, k4⟩ := ints_of_trod h0
  obtain ⟨A2, n2, c2, l2, j1, j2, j3, j4⟩ := rows_of_trod h1
  simp only [List.cons.injEq, and_true] at k1 j1
  subst k1 j1
  exact ⟨_, _, ⟨l1, l2⟩, rfl, A1, n1, c1, A2, n2, c2, rfl, rfl, k4, by omega, j4, by omega⟩
end

set_option maxHeartbeats 400000 in
theorem szIntSS_any (A : Option Addr) (n c : Nat) (l : List (List Int)) (left : Int) (w : World) (hl : IntRows w A n l) (hn : n ≤ 9223372036854775807) (h0 : 0 ≤ left) (h1 : left ≤ 1048576) :
    Calls Try.prog 146 #[.slice A n c, .int .i64 left] w (SzPost left (wRows l) w) := by
  have HL := hide hl
  clear hl
  by_cases h : left < n
  · go_enter Try.func146, Try.ntmps146
    go_wp2
    go_ret
    exact ⟨-1, rfl, .inl rfl, Below.refl _ _⟩
  · go_enter Try.func146, Try.ntmps146
    go_wp2
    go_loop [1, 5] (fun v i => ∃ (k : Nat) (r : Int), k ≤ n ∧ i = .int .i64 k ∧ v = .int .i64 r ∧ 0 ≤ r ∧ r ≤ left ∧ Hid (r + n + ((l.take k).map List.length).sum = left)) (fun _ i => n - (intOf i).toNat)
    case atStart => exact ⟨0, _, Nat.zero_le _, rfl, rfl, by omega, by omega, show _ = _ by simp⟩
    case round =>
      obtain ⟨k, r, hk, rfl, rfl, hr0, hr1, hsum⟩ := hrel
      by_cases hlt : k < n
      · obtain ⟨ad, A', n', c', rfl, _, hcell, hn', hI⟩ := (HL.out).at_ hlt
        unfold maxLen at hn'
        have hkl : k < l.length := by have := (HL.out).1; omega
        have hst := hide (show ((l.take (k + 1)).map List.length).sum = ((l.take k).map List.length).sum + n' by rw [hI.1]; exact sum_take hkl [])
        clear hkl hI
        by_cases hbig : r < n'
        · go_wp2_with (go_at_call 141; refine (szIntS_any A' n' c' _ _ (by omega) (by omega) (by omega)).mono ?_; rintro e w' ⟨rfl, rfl⟩; rw [if_pos hbig])
          go_ret
          exact ⟨-1, rfl, .inl rfl, Below.refl _ _⟩
        · go_wp2_with (go_at_call 141; refine (szIntS_any A' n' c' _ _ (by omega) (by omega) (by omega)).mono ?_; rintro e w' ⟨rfl, rfl⟩; rw [if_neg (by omega)])
          go_round
          case rel => exact ⟨k + 1, r - n', by omega, by go_num, rfl, by omega, by omega, show _ = _ by rw [hst.out]; have := hsum.out; omega⟩
          case measure => simp only [intOf]; omega
      · go_wp2
        go_ret
        refine ⟨r, rfl, .inr ⟨hr0, ?_⟩, Below.refl _ _⟩
        have h2 := hsum.out
        rw [List.take_of_length_le (by have := (HL.out).1; omega)] at h2
        have := (HL.out).1
        unfold wRows
        omega

set_option maxHeartbeats 1000000 in
theorem szStats_any (x0 x1 : Value) (d : StatsD) (left : Int) (w : World) (h : StatsI w x0 x1 d) (h0 : 0 ≤ left) (h1 : left ≤ 1048576) :
    Calls Try.prog 88 #[.agg #[x0, x1], .int .i64 left] w (SzPost left (wStats d) w) := by
  obtain ⟨A, n, c, B, m, k, rfl, rfl, hl, hn, hr, hm⟩ := h
  have hlen := hide hl.1
  unfold maxLen at hn hm
  have hbox : Below w.heap.size w (w.alloc (.cells #[.slice A n c, .slice B m k] 74)) := (Below.refl _ _).alloc (Nat.le_refl _) _
  have HR := hide (hr.keep hbox)
  clear hl hr
  by_cases g2 : left < n
  · go_enter Try.func88, Try.ntmps88
    go_wp2_with (go_at_call 141; refine (szIntS_any A n c _ _ (by omega) (by omega) (by omega)).mono ?_; rintro e w' ⟨rfl, rfl⟩; rw [if_pos g2])
    go_ret
    exact ⟨-1, rfl, .inl rfl, hbox⟩
  · go_enter Try.func88, Try.ntmps88
    go_wp2_with (fail)
    refine (szIntS_any A n c _ _ (by omega) (by omega) (by omega)).mono ?_
    rintro e w' ⟨rfl, rfl⟩
    rw [if_neg (by omega)]
    go_wp2_with (fail)
    refine (szIntSS_any B m k d.cells _ _ HR.out (by omega) (by omega) (by omega)).mono ?_
    rintro e w2 ⟨r, rfl, hr, hb2⟩
    have hB := bthen hbox hb2
    clear hb2
    rcases hr with rfl | ⟨hr0, hr1⟩
    · go_wp2
      go_ret
      exact ⟨-1, rfl, .inl rfl, hB⟩
    · have HR := hide hr1
      clear hr1
      go_wp2
      go_ret
      refine ⟨r, rfl, .inr ⟨hr0, ?_⟩, hB⟩
      have h1 := HR.out
      have h2 := hlen.out
      unfold wStats
      omega

set_option maxHeartbeats 1000000 in
theorem eqIntSS_any (A B : Option Addr) (n m c d : Nat) (l r : List (List Int)) (w : World) (hl : RowsM w A n l) (hr : RowsM w B m r) (hn : n ≤ 2097152) (hm : m ≤ 2097152) :
    Calls Try.prog 149 #[.slice A n c, .slice B m d] w fun e w' => e = .returned (.bool (decide (l = r))) ∧ ∃ q, w' = w.drewN q := by
  have HL := hide hl
  have HR := hide hr
  clear hl hr
  by_cases hnm : n = m
  · subst hnm
    go_enter Try.func149, Try.ntmps149
    go_wp2
    go_loopw [5] (fun i wr => ∃ k : Nat, k ≤ n ∧ i = .int .i64 k ∧ l.take k = r.take k ∧ ∃ q, wr = w.drewN q) (fun i _ => n - (intOf i).toNat)
    case atStart => exact ⟨0, Nat.zero_le _, rfl, by simp, 0, rfl⟩
    case round =>
      obtain ⟨k, hk, rfl, htk, q, rfl⟩ := hrel
      have HT := hide htk
      clear htk
      by_cases hlt : k < n
      · obtain ⟨a1, A1, n1, c1, rfl, _, hc1, hn1, hI1⟩ := (HL.out).at_ hlt
        obtain ⟨a2, A2, n2, c2, rfl, _, hc2, hn2, hI2⟩ := (HR.out).at_ hlt
        have H1 := hide hI1
        have H2 := hide hI2
        clear hI1 hI2
        have hi0 : (0 : Int) ≤ k := by omega
        have hi1 : (k : Int) < n := by omega
        by_cases he : l[k]?.getD [] = r[k]?.getD []
        · have HS := hide (take_eq_step [] (by have := HL.out.1; omega) (by have := HR.out.1; omega) HT.out he)
          have HE := hide (show decide (l[k]?.getD [] = r[k]?.getD []) = true by simpa using he)
          clear he
          go_wp2
          go_quiet ((go_at_call 50; exact quiet_add ((eqIntS_any A1 A2 n1 n2 c1 c2 _ _ _ (H1.out.keep (below_drewN (Below.refl _ _) _)) (H2.out.keep (below_drewN (Below.refl _ _) _)) (by omega) (by omega)).mono fun _ _ h => ⟨h.1.trans (ret_bool HE.out), h.2⟩)))
          go_wp2
          go_roundw
          case rel => exact ⟨k + 1, by omega, by go_num, HS.out, _, rfl⟩
          case measure => simp [intOf]; omega
        · have HS := hide (take_ne_step [] he)
          have HE := hide (show decide (l[k]?.getD [] = r[k]?.getD []) = false by simpa using he)
          clear he
          go_wp2
          go_quiet ((go_at_call 50; exact quiet_add ((eqIntS_any A1 A2 n1 n2 c1 c2 _ _ _ (H1.out.keep (below_drewN (Below.refl _ _) _)) (H2.out.keep (below_drewN (Below.refl _ _) _)) (by omega) (by omega)).mono fun _ _ h => ⟨h.1.trans (ret_bool HE.out), h.2⟩)))
          go_wp2
          go_ret
          exact ⟨ret_bool (by simp [HS.out]), _, World.drewN_drewN _ _ _⟩
      · have HS := hide (show l = r by
          have h := HT.out
          rwa [List.take_of_length_le (by have := HL.out.1; omega), List.take_of_length_le (by have := HR.out.1; omega)] at h)
        go_wp2
        go_ret
        exact ⟨ret_bool (by simp [HS.out]), _, rfl⟩
  · have HS := hide (show ¬ l = r by
      rintro rfl
      exact hnm (by have := HL.out.1; have := HR.out.1; omega))
    have hne : ((n : Int) != (m : Int)) = true := by rw [bne_iff_ne]; omega
    clear hnm
    go_enter Try.func149, Try.ntmps149
    go_wp2
    go_ret
    exact ⟨ret_bool (by simp [HS.out]), 0, rfl⟩
end Go.Proofs.Ytnnhngdconbbfaa
