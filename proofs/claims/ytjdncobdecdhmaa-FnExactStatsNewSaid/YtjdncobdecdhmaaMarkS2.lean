/-
  Contracts: marks in statistics, whole.
-/
import Derived.Test.YtjdncobdecdhmaaMarkS
namespace Go.Proofs.Ytjdncobdecdhmaa
open Go.RowKit
set_option maxRecDepth 100000

theorem marksR_small {k0 : Int} {ls : List (List Int)} (h : ∀ l ∈ ls, l.length ≤ 1048576) : ∀ l ∈ marksR k0 ls, l.length ≤ 1048576 := by
  intro l hl
  obtain ⟨j, hj, rfl⟩ := List.mem_iff_getElem.1 hl
  have hj' : j < ls.length := by rwa [marksR_len] at hj
  have e : (marksR k0 ls)[j] = marksI (k0 + lens ls j) (ls[j]?.getD []).length := by
    rw [← mixRows_new hj' hj', getD_of_lt (by rw [mixRows_len]; exact hj')]; rfl
  rw [e, marksI_len, getD_of_lt hj']
  exact h _ (List.getElem_mem hj')
set_option maxHeartbeats 2000000 in
theorem markStats_any (B H : Nat) (x0 x1 : Value) (d : StatsD) (k0 : Int) (w : World) (h : StatsO B H w x0 x1 d) (hs : cntStats d ≤ 1048576) (h0 : 0 ≤ k0) (h1 : k0 ≤ 1048576) :
    Calls Try.prog 25 #[.agg #[x0, x1], .int .i64 k0] w fun e w' => e = .returned (.int .i64 (k0 + cntStats d)) ∧ StatsO B H w' x0 x1 (markStatsD k0 d) ∧ Only (fun j => B ≤ j ∧ j < H) w w' := by
  obtain ⟨A, n, c, D, m, k, r, rfl, rfl, hb, h0', hr, hn, hm, hz, hH⟩ := h
  have hlen : n = d.totals.length := by
    have := (hb.rowOf (by omega) h0')
    exact (ints_of this).1
  have hal : Below w.heap.size w (w.alloc (.cells #[.slice A n c, .slice D m k] 39)) := (Below.refl _ _).alloc (Nat.le_refl _) _
  have hX := Box2.new w (.slice A n c) (.slice D m k) 39
  obtain ⟨W, hW⟩ : ∃ W, W = w.alloc (.cells #[.slice A n c, .slice D m k] 39) := ⟨_, rfl⟩
  rw [← hW] at hX hal
  have hbW := hb.below hal
  have HB := hide hbW
  have HT := hide hr
  have HR0 := hide (hbW.rowOf (by omega) h0')
  have H0 := hide h0'
  have HH := hide hH
  have hHw := hide (show ∀ k, has (2 + m) r k → k < w.heap.size from fun k hk => (hb.lt hk).2)
  have hcnt := hide (show cntStats d = n + (d.cells.map List.length).sum by rw [cntStats, hlen])
  have hs2 : n + (d.cells.map List.length).sum ≤ 1048576 := by rw [← hcnt.out]; exact hs
  have hl1 := hide hlen
  have HW := hide hW
  clear hb hr h0' hH hbW hlen hW
  obtain ⟨k0', k1', k2'⟩ := id hX
  go_enter Try.func25, Try.ntmps25
  go_wp2_with (fail)
  rw [← HW.out]
  refine (markIntS_any B A n c d.totals _ _ HR0.out (by omega) (by omega) (by omega)).mono ?_
  rintro e w1 ⟨rfl, ho1, hg1⟩
  have hO1 : Only (fun j => has (2 + m) r j) W w1 := Only.of_grown hg1 fun k hk => ⟨0, by omega, by rw [H0.out]; exact hk⟩
  have hb1 := HB.out.store (i := 0) (s := intRow A n c (marksI k0 n)) (by omega) (by rw [H0.out]; exact hg1) ho1 (by rw [H0.out]; rfl)
  have HB1 := hide hb1
  have hX1 : Box2 w1 w.heap.size (.slice A n c) (.slice D m k) :=
    ⟨(hO1.cell (p := ⟨w.heap.size, 0, none⟩) (fun hh => by have := hHw.out _ hh; simp at this) hX.lt).trans hX.c0, (hO1.cell (p := ⟨w.heap.size, 1, none⟩) (fun hh => by have := hHw.out _ hh; simp at this) hX.lt).trans hX.c1, Nat.lt_of_lt_of_le hX.lt hO1.size⟩
  have HO1 := hide hO1
  clear ho1 hg1 hb1 hO1 k0' k1' k2' hX
  obtain ⟨k0', k1', k2'⟩ := hX1
  have htl := hide (show RowsTo (fun i => rput r 0 (intRow A n c (marksI k0 n)) (1 + i)) D m k d.cells m from by
    have := HT.out
    refine ⟨this.len, ?_, fun i hi => ?_⟩
    · rw [rput_other _ _ (by omega)]; rw [show 1 + 0 = 0 + 1 by omega]; exact this.head
    · obtain ⟨A2, n2, c2, q1, q2⟩ := this.rows i hi
      exact ⟨A2, n2, c2, by rw [rput_other _ _ (by omega)]; exact q1, by rw [rput_other _ _ (by omega), show 1 + (i + 1) = i + 1 + 1 by omega]; exact q2⟩)
  go_wp2_with (fail)
  refine (markIntSS_any (fun j => has (1 + m) (fun i => rput r 0 (intRow A n c (marksI k0 n)) (1 + i)) j) B D m k d.cells _ _ _ (HB1.out.shift (o := 1) (M := 1 + m) (by omega)) htl.out (fun _ h => h) hm (by omega) (by omega) (by omega)).mono ?_
  rintro e w2 ⟨rfl, ⟨r', hb2, ht2, hh2⟩, hO2⟩
  have hhas : ∀ j, has (1 + m) (fun i => rput r 0 (intRow A n c (marksI k0 n)) (1 + i)) j → has (2 + m) r j := by
    rintro j ⟨i, hi, e⟩
    refine ⟨1 + i, by omega, ?_⟩
    have e' : (rput r 0 (intRow A n c (marksI k0 n)) (1 + i)).blk = some j := e
    rwa [rput_other _ _ (by omega)] at e'
  have hO3 : Only (fun j => has (2 + m) r j) W w2 := HO1.out.trans (hO2.mono hhas)
  have hfin : StatsO B H w2 (.slice A n c) (.slice D m k) (markStatsD k0 d) := by
    have hrow0 : w2.ownsRow B 3 1 (.slice A n c) n ((marksI k0 n).map (Value.int .i64)) := by
      have h1 := HB1.out.rowOf (i := 0) (by omega) (rput_same _ _ _)
      refine own_only h1 hO2 fun j hj hh => ?_
      obtain ⟨i, hi, e⟩ := hh
      rcases HB1.out.sep 0 (1 + i) (by omega) (by omega) (by omega) with q | q
      · rw [rput_same] at q
        have q' : Value.ownBlock (.slice A n c) = none := q
        rw [q'] at hj; cases hj
      · refine q ?_
        rw [rput_same]
        have e' : (rput r 0 (intRow A n c (marksI k0 n)) (1 + i)).blk = some j := e
        rw [e']
        exact hj
    refine ⟨A, n, c, D, m, k, rcat 1 (fun _ => intRow A n c (marksI k0 n)) r', rfl, rfl, ?_, ?_, ?_, hn, hm, ?_, ?_⟩
    · refine ⟨fun i hi => ?_, fun i j hi hj hij => ?_⟩
      · unfold rcat
        split
        · exact hrow0
        · exact hb2.own _ (by omega)
      · have key : ∀ i, i < 1 + m → (intRow A n c (marksI k0 n)).apart (r' i) := by
          intro i hi
          unfold Row.apart
          rcases hbk : (intRow A n c (marksI k0 n)).blk with _ | g
          · exact .inl rfl
          · refine .inr fun e => ?_
            obtain ⟨i2, hi2, e2⟩ := (hh2 g).1 ⟨i, hi, e.symm⟩
            rcases HB1.out.sep 0 (1 + i2) (by omega) (by omega) (by omega) with q | q
            · rw [rput_same, hbk] at q; cases q
            · rw [rput_same, hbk] at q
              exact q e2.symm
        unfold rcat
        split <;> split
        · omega
        · exact key _ (by omega)
        · exact (key _ (by omega)).symm
        · exact hb2.sep _ _ (by omega) (by omega) (by omega)
    · show intRow A n c _ = intRow A n c (markStatsD k0 d).totals
      rw [markStatsD, hl1.out]
    · have e : (fun i => rcat 1 (fun _ => intRow A n c (marksI k0 n)) r' (i + 1)) = r' := by funext i; simp [rcat]
      rw [e]
      show RowsTo r' D m k (marksR (k0 + d.totals.length) d.cells) m
      rw [← hl1.out]
      exact ht2
    · exact marksR_small hz
    · rintro j ⟨i, hi, e⟩
      unfold rcat at e
      split at e
      · exact HH.out j ⟨0, by omega, by rw [H0.out]; exact e⟩
      · exact HH.out j (hhas j ((hh2 j).1 ⟨i - 1, by omega, e⟩))
  have hOnly : Only (fun j => B ≤ j ∧ j < H) w w2 := (Only.of_below (by rw [HW.out]; exact (Below.refl _ _).alloc (Nat.le_refl _) _)).trans (hO3.mono fun j hj => ⟨(HB.out.lt hj).1, HH.out j hj⟩)
  clear hO2 hO3 hb2 ht2 hh2 hhas
  go_wp2
  go_ret
  exact ⟨ret_int (by rw [hcnt.out]; omega), hfin, hOnly⟩
set_option maxHeartbeats 1000000 in
theorem heldStats_any (x0 x1 : Value) (d : StatsD) (k0 : Int) (w : World) (h : StatsM w x0 x1 (markStatsD k0 d)) (hs : cntStats d ≤ 1048576) (h0 : 0 ≤ k0) (h1 : k0 ≤ 1048576) :
    Calls Try.prog 26 #[.agg #[x0, x1], .int .i64 k0] w fun e w' => e = .returned (.int .i64 (k0 + cntStats d)) ∧ Below w.heap.size w w' := by
  obtain ⟨A, n, c, D, m, k, rfl, rfl, hl, hn, hr, hm⟩ := h
  have hlen : n = d.totals.length := by have := hl.1; rwa [markStatsD, marksI_len] at this
  have hal : Below w.heap.size w (w.alloc (.cells #[.slice A n c, .slice D m k] 39)) := (Below.refl _ _).alloc (Nat.le_refl _) _
  have hl' : Ints w A n (marksI k0 n) := by have := hl; rwa [markStatsD, ← hlen] at this
  have hr' : RowsM w D m (marksR (k0 + n) d.cells) := by have := hr; rwa [markStatsD, ← hlen] at this
  have HL := hide (hl'.keep hal)
  have HR := hide (hr'.keep hal)
  have hcnt := hide (show cntStats d = n + (d.cells.map List.length).sum by rw [cntStats, hlen])
  have hs2 : n + (d.cells.map List.length).sum ≤ 1048576 := by rw [← hcnt.out]; exact hs
  clear hl hr hl' hr' hlen
  go_enter Try.func26, Try.ntmps26
  go_wp2_with (fail)
  refine (heldIntS_any A n c _ _ HL.out (by omega) (by omega) (by omega)).mono ?_
  rintro e w1 ⟨rfl, rfl⟩
  go_wp2_with (fail)
  refine (heldIntSS_any D m k d.cells _ _ HR.out (by omega) (by omega) (by omega) (by omega)).mono ?_
  rintro e w1 ⟨rfl, rfl⟩
  go_wp2
  go_ret
  exact ⟨ret_int (by rw [hcnt.out]; omega), hal⟩
end Go.Proofs.Ytjdncobdecdhmaa
