/-
  Contracts: new statistics, the reference.
-/
import Derived.Test.YtjdncobdecdhmaaStatsNew
namespace Go.Proofs.Ytjdncobdecdhmaa
open Go.RowKit
set_option maxRecDepth 100000

theorem new_one2 {W : World} {g : Nat} (h : W.heap.size = g) (u : Value) (e : TypeId) : ∀ j v, ([u] : List Value)[j]? = some v → ∃ a, some (⟨g, 0, none⟩ : Addr) = some a ∧ (W.alloc (.cells #[u] e)).cell? (a.add j) = some v := by
  subst h
  exact new_one W u e

set_option maxHeartbeats 8000000 in
theorem specStatsNew_any (x0 x1 : Value) (d : SchemaD) (w : World) (h : SchemaM w x0 x1 d) :
    Calls Try.prog 19 #[.agg #[x0, x1]] w fun e w' => ∃ y0 y1, e = .returned (.agg #[y0, y1]) ∧ StatsO w.heap.size w'.heap.size w' y0 y1 (statsNewD d) ∧ Below w.heap.size w w' := by
  have hSM := hide h
  obtain ⟨A, n, c, D, m, k, rfl, rfl, hl, hn, hr, hs, hm, hmk⟩ := h
  have hbox : Below w.heap.size w ((w.alloc (.cells #[.slice A n c, .slice D m k] 43)).alloc (.cells #[.slice none 0 0, .slice none 0 0] 39)) := ((Below.refl _ _).alloc (Nat.le_refl _) _).alloc (by simp) _
  obtain ⟨W, hW⟩ : ∃ W, W = ((w.alloc (.cells #[.slice A n c, .slice D m k] 43)).alloc (.cells #[.slice none 0 0, .slice none 0 0] 39)) := ⟨_, rfl⟩
  have hX := (Box2.new w (.slice A n c) (.slice D m k) 43).keep (Below.alloc (Below.refl _ _) (Nat.le_refl _) (.cells #[.slice none 0 0, .slice none 0 0] 39))
  have hY := Box2.new (w.alloc (.cells #[.slice A n c, .slice D m k] 43)) (.slice none 0 0) (.slice none 0 0) 39
  have hz : (w.alloc (.cells #[.slice A n c, .slice D m k] 43)).heap.size = w.heap.size + 1 := by simp
  rw [hz] at hY
  clear hz
  have hfr : W.frozen? ⟨w.heap.size + 1, 0, none⟩ = false ∧ W.frozen? ⟨w.heap.size + 1, 1, none⟩ = false := by rw [hW]; exact ⟨by go_simp, by go_simp⟩
  have hzW : W.heap.size = w.heap.size + 2 := by rw [hW]; simp
  rw [← hW] at hX hY
  have HL := hide (hl.keep hbox)
  have HSM := hide (hSM.out.keep hbox)
  rw [← hW] at HL hbox HSM
  have hl1 := hide hl.1
  have hr1 := hide hr.1
  have HW := hide hW
  have HZ := hide hzW
  have HF := hide hfr
  clear hl hr hs hW hSM hzW hfr
  cases h1 : schemaB d
  · have hfin := hide (statsNewD_no h1)
    have H1 := hide h1
    obtain ⟨k0, k1, k2⟩ := id hX
    clear h1
    go_enter Try.func19, Try.ntmps19
    go_wp2_with (fail)
    rw [← HW.out]
    refine (specSchemaOk_any _ _ d _ HSM.out).mono ?_
    rintro r w1 ⟨rfl, hb1⟩
    rw [H1.out]
    have hB := bthen hbox hb1
    have hY1 := hY.keep hb1
    have hf0 := (hb1.frozen (p := ⟨w.heap.size + 1, 0, none⟩) hY.lt).trans HF.out.1
    have hf1 := (hb1.frozen (p := ⟨w.heap.size + 1, 1, none⟩) hY.lt).trans HF.out.2
    have hzz := hide (show w.heap.size + 2 ≤ w1.heap.size by rw [← HZ.out]; exact hb1.size)
    clear hb1 hX k0 k1 k2
    obtain ⟨k0, k1, k2⟩ := id hY1
    go_wp2
    have hO : StatsO w1.heap.size w1.heap.size w1 (.slice none 0 0) (.slice none 0 0) ⟨[], []⟩ := StatsO.thin (l := []) (World.ownsRow_nil _ _ _ _) (by omega) (Nat.le_refl _)
    have hW2 : Only (fun j => w.heap.size + 1 = j) w1 ((w1.setCell ⟨w.heap.size + 1, 0, none⟩ (.slice none 0 0)).setCell ⟨w.heap.size + 1, 1, none⟩ (.slice none 0 0)) :=
      ((Only.refl _ w1).setCell (p := ⟨w.heap.size + 1, 0, none⟩) rfl _).setCell (p := ⟨w.heap.size + 1, 1, none⟩) rfl _
    exact bodyPost_ret (v := .agg #[.slice none 0 0, .slice none 0 0]) (by simp [results, Try.results19, go_sem, k0, k1]) rfl
      ⟨_, _, rfl, by rw [hfin.out]; exact ((hO.only hW2 (fun j hj => .inl (by have := hzz.out; omega))).mono (by have := hzz.out; omega)).up (by simp), (hB.setCell (by simp) _).setCell (by simp) _⟩
  · have H1 := hide h1
    clear h1
    have hXc := hide hX
    obtain ⟨k0, k1, k2⟩ := hX
    go_enter Try.func19, Try.ntmps19
    go_wp2_with (fail)
    rw [← HW.out]
    refine (specSchemaOk_any _ _ d _ HSM.out).mono ?_
    rintro r w1 ⟨rfl, hb1⟩
    rw [H1.out]
    have hB := bthen hbox hb1
    have hX1 := hXc.out.keep hb1
    have hY1 := hY.keep hb1
    have HL1 := hide (HL.out.keep hb1)
    have HF1 := hide (And.intro ((hb1.frozen (p := ⟨w.heap.size + 1, 0, none⟩) hY.lt).trans HF.out.1) ((hb1.frozen (p := ⟨w.heap.size + 1, 1, none⟩) hY.lt).trans HF.out.2))
    have hzz : w.heap.size + 2 ≤ w1.heap.size := by rw [← HZ.out]; exact hb1.size
    clear hb1 k0 k1 k2 hY hbox HL hXc HF
    obtain ⟨k0, k1, k2⟩ := id hX1
    have hm23 := hide (show m = 2 ∨ m = 3 by rw [hr1.out]; exact schemaB_classes H1.out)
    have hm3 : m ≤ 3 := by rcases hm23.out with h | h <;> omega
    have hn5 : n ≤ 5 := by rw [hl1.out]; exact (schemaB_few H1.out).2
    obtain ⟨i0, hi0, hz0, hz1, hz2⟩ := info_parts infoI
    go_wp2_with (at_make; refine wpList_make_full _ rfl _ _ 28 rfl w1.heap.size 3 i0 (.int .i64 0) 1 Try.underlying28 hi0 hz0 hz1 _ _ _ _ m rfl rfl rfl rfl (by rw [hz2]; omega) (by unfold maxLen; omega) (Nat.le_refl _) ?_; intro w2 hown1 hg1; have hmake := hide (And.intro hown1 hg1); clear hown1 hg1)
    have hb2 : Below w1.heap.size w1 w2 := (Below.refl _ _).grown hmake.out.2 (Nat.le_refl _) (by simp)
    have hot : w2.ownsRow w1.heap.size 3 1 (.slice (some ⟨w1.heap.size, 0, none⟩) m m) m ((List.replicate m (0 : Int)).map (Value.int .i64)) := by
      have h := hmake.out.1
      simp only [Value.cells, Nat.mul_one] at h
      rw [toList_madeCells_one] at h
      rw [List.map_replicate]
      exact h
    have HI0 := hide (And.intro hi0 (And.intro hz0 (And.intro hz1 hz2)))
    clear hmake hi0 hz0 hz1 hz2
    have hX2 := hX1.keep hb2
    have hY2 := hY1.keep hb2
    have HL2 := hide (HL1.out.keep hb2)
    have HF2 := hide (And.intro ((hb2.frozen (p := ⟨w.heap.size + 1, 0, none⟩) hY1.lt).trans HF1.out.1) ((hb2.frozen (p := ⟨w.heap.size + 1, 1, none⟩) hY1.lt).trans HF1.out.2))
    replace hB := bthen hB hb2
    have hzz2 := hb2.size
    have HTot := hide hot
    clear hb2 hX1 hY1 HL1 HF1 hot k0 k1 k2
    obtain ⟨g0, h0⟩ := RowsTo.nil (w := w2.alloc (.cells #[.slice (some ⟨w1.heap.size, 0, none⟩) m m, .slice none 0 0] 39)) (w2.heap.size + 1)
    have hT3 := Box2.new w2 (.slice (some ⟨w1.heap.size, 0, none⟩) m m) (.slice none 0 0) 39
    have hstart := hide (And.intro g0 h0)
    have hf0 : (w2.alloc (.cells #[.slice (some ⟨w1.heap.size, 0, none⟩) m m, .slice none 0 0] 39)).frozen? ⟨w2.heap.size, 0, none⟩ = false ∧ (w2.alloc (.cells #[.slice (some ⟨w1.heap.size, 0, none⟩) m m, .slice none 0 0] 39)).frozen? ⟨w2.heap.size, 1, none⟩ = false := ⟨by go_simp, by go_simp⟩
    have HF0 := hide hf0
    clear g0 h0 hf0
    go_loopw [4] (fun i wr => ∃ K : Nat, K ≤ n ∧ i = .int .i64 K ∧ (∃ A' c', Box2 wr w2.heap.size (.slice (some ⟨w1.heap.size, 0, none⟩) m m) (.slice A' K c') ∧ ∃ r, Bag (w2.heap.size + 1) (1 + K) wr r ∧ RowsTo r A' K c' ((zeroRows d).take K) K) ∧ (wr.frozen? ⟨w2.heap.size, 0, none⟩ = false ∧ wr.frozen? ⟨w2.heap.size, 1, none⟩ = false) ∧ Below w2.heap.size w2 wr) (fun i _ => n - (intOf i).toNat)
    case atStart => exact ⟨0, Nat.zero_le _, rfl, ⟨_, _, hT3, _, hstart.out.1, hstart.out.2⟩, HF0.out, (Below.refl _ _).alloc (Nat.le_refl _) _⟩
    case round =>
      clear hT3 hstart HF0
      obtain ⟨K, hk, rfl, ⟨A', c', hbx, r, hbag, hto⟩, ⟨hf0, hf1⟩, hbel⟩ := hrel
      by_cases hlt : K < n
      · obtain ⟨ad, A1, n1, c1, A2, n2, c2, rfl, hbk, g0, g1, g2, hI⟩ := (HL2.out.keep hbel).at_ hlt
        have hX3 := hX2.keep hbel
        have hkl := hide (show K < d.attrs.length by have := hl1.out; omega)
        obtain ⟨a, ha⟩ : ∃ a, a = d.attrs[K]?.getD default := ⟨_, rfl⟩
        rw [← ha] at g0 hI
        have HA := hide ha
        obtain ⟨hb0, hb4⟩ := binsOf_bd a
        obtain ⟨hmul, hw64, hZ⟩ := mul_bins hb0 hb4 hm3
        have hrow := hide (show zeroRow m a = List.replicate ((binsOf a).toNat * m) 0 by unfold zeroRow; rfl)
        obtain ⟨Z, hZe⟩ : ∃ Z, Z = (binsOf a).toNat * m := ⟨_, rfl⟩
        rw [← hZe] at hmul hw64 hZ hrow
        have HI := hide hI
        have HB := hide hbag
        have HT := hide hto
        obtain ⟨k0, k1, k2⟩ := id hX3
        obtain ⟨j0, j1, j2⟩ := id hbx
        have hz3 := hbel.size
        have hi0 : (0 : Int) ≤ K := by omega
        have hi1 : (K : Int) < n := by omega
        clear hI hbag hto ha hZe hb0 hb4
        obtain ⟨CZ, hCZ, hmk⟩ : ∃ CZ : Array Value, CZ.toList = (List.replicate Z (0 : Int)).map (Value.int .i64) ∧ ∀ W : World, (Instr.makeSlice 28 (.int .i64 (Z : Int)) (.int .i64 (Z : Int))).run Try.prog W = .ok (.slice (some ⟨W.heap.size, 0, none⟩) Z Z) (W.alloc (.cells CZ 3)) := by
          obtain ⟨hi0, hz0, hz1, hz2⟩ := HI0.out
          refine ⟨madeCells #[.int .i64 0] Z, by rw [toList_madeCells_one, List.map_replicate], fun W => ?_⟩
          have hr := run_make (P := Try.prog) W 28 3 i0 (.int .i64 0) Try.underlying28 hi0 hz0 .i64 .i64 Z Z (by omega) (Int.le_refl _) (by rw [hz2]; omega) (by omega)
          rw [hz1, Int.toNat_natCast, Nat.mul_one] at hr
          exact hr
        have hCZl : CZ.size = Z := by rw [← Array.length_toList, hCZ]; simp
        have HCZ := hide (And.intro hCZ hCZl)
        have hgo := hide (fun (W w7 : World) (hb7 : Below wr.heap.size wr w7) => (⟨HT.out.outer (HB.out.below hb7) (by omega), HB.out.below hb7⟩ : w7.ownsRow (w2.heap.size + 1) 28 1 (.slice A' K c') K (r 0).xs ∧ Bag (w2.heap.size + 1) (1 + K) w7 r))
        have hww : w.heap.size < w2.heap.size := by omega
        clear hX2 HL2 HSM HW HZ H1 HTot HF2 hY2 hzz2 hX3 hbx hm23 hB hCZ hCZl HI0
        go_wp2
        go_region_law (first
          | (go_simp; go_at_call 51; refine (specBins_any A1 n1 c1 A2 n2 c2 a _ (HI.out.keep ((Below.refl _ _).drew))).mono ?_; rintro e w7 ⟨rfl, hb7⟩; have hcc7 : w7.cell? ⟨w.heap.size, 1, none⟩ = some (.slice D m k) := (hb7.cell (p := ⟨w.heap.size, 1, none⟩) k2).trans k1; have hcj7 : w7.cell? ⟨w2.heap.size, 1, none⟩ = some (.slice A' K c') := (hb7.cell (p := ⟨w2.heap.size, 1, none⟩) j2).trans j1; have hf7 : w7.frozen? ⟨w2.heap.size, 1, none⟩ = false := (hb7.frozen (p := ⟨w2.heap.size, 1, none⟩) j2).trans hf1; have hz7 : wr.heap.size ≤ w7.heap.size := (by have := hb7.size; simpa using this); have hq7 : w2.heap.size < w7.heap.size := (by omega); have hp7 : w.heap.size < w7.heap.size := (by omega); have HC7 := hide (bthen (Below.refl _ _).drew hb7); clear hb7)
          | (refine step_append_src _ rfl (.tmp 22) (.tmp 34) 37 rfl (w2.heap.size + 1) 28 (.slice none 0 0) 1 24 Try.underlying37 infoR rfl (by decide) (.slice A' K c') K (r 0).xs [.slice (some ⟨w7.heap.size, 0, none⟩) Z Z] rfl (((hgo.out w7 w7 HC7.out).1.alloc _).alloc _) (some ⟨w7.heap.size + 1, 0, none⟩) 1 1 rfl rfl (new_one2 (by simp) _ _) (by simp [Value.oneCell']) (by unfold maxLen; omega) (by omega) (by simp; omega) ?_; intro v' w9 hown9 hb9 hg9 hn9; obtain ⟨D9, m9, rfl⟩ := own_shape hown9; have hc9 := fun b o h => hb9.cell (p := ⟨b, o, none⟩) h; have hf9 := fun b o h => hb9.frozen (p := ⟨b, o, none⟩) h; have hz9 := hb9.size))
        all_goals
          have h78 : Below w7.heap.size w7 ((w7.alloc (.cells CZ 3)).alloc (.cells #[.slice (some ⟨w7.heap.size, 0, none⟩) Z Z] 28)) := ((Below.refl _ _).alloc (Nat.le_refl _) _).alloc (by simp) _
          have ho8 : ((w7.alloc (.cells CZ 3)).alloc (.cells #[.slice (some ⟨w7.heap.size, 0, none⟩) Z Z] 28)).ownsRow w7.heap.size 3 1 (.slice (some ⟨w7.heap.size, 0, none⟩) Z Z) Z ((List.replicate Z (0 : Int)).map (Value.int .i64)) := by
            rw [← HCZ.out.1]
            exact (World.ownsRow_lit w7 CZ Z (Nat.le_refl _) (by unfold maxLen; omega) (by rw [HCZ.out.2]; omega)).alloc _
          obtain ⟨A9, c9, r9, e9, hB9, hT9⟩ := HT.out.snoc (HB.out.below HC7.out) ho8 h78 (by omega) hown9 hg9 hn9
          injection e9 with e91 _ e92
          subst e91 e92
          have hb9' := ((bthen HC7.out h78).mono (B' := w2.heap.size + 1) (by omega)).trans hb9
          have hS : Only (fun j => w2.heap.size = j) w9 (w9.setCell ⟨w2.heap.size, 1, none⟩ (.slice D9 (K + 1) m9)) := (Only.refl _ w9).setCell (p := ⟨w2.heap.size, 1, none⟩) rfl _
          have hbx9 : Box2 w9 w2.heap.size (.slice (some ⟨w1.heap.size, 0, none⟩) m m) (.slice A' K c') :=
            ⟨(hb9'.cell (p := ⟨w2.heap.size, 0, none⟩) (by simp)).trans j0, (hb9'.cell (p := ⟨w2.heap.size, 1, none⟩) (by simp)).trans j1, Nat.lt_of_lt_of_le j2 hb9'.size⟩
          have hfr9 : w9.frozen? ⟨w2.heap.size, 0, none⟩ = false ∧ w9.frozen? ⟨w2.heap.size, 1, none⟩ = false := ⟨(hb9'.frozen (p := ⟨w2.heap.size, 0, none⟩) (by simp)).trans hf0, (hb9'.frozen (p := ⟨w2.heap.size, 1, none⟩) (by simp)).trans hf1⟩
          have HBX9 := hide (set_box2 (z := .slice D9 (K + 1) m9) hbx9)
          have HF9 := hide (show (w9.setCell ⟨w2.heap.size, 1, none⟩ (.slice D9 (K + 1) m9)).frozen? ⟨w2.heap.size, 0, none⟩ = false ∧ (w9.setCell ⟨w2.heap.size, 1, none⟩ (.slice D9 (K + 1) m9)).frozen? ⟨w2.heap.size, 1, none⟩ = false from by simpa using hfr9)
          have HB9 := hide (hB9.only hS (fun j hj e => by have := (hB9.lt hj).1; omega))
          have hZr : (zeroRows d).take K ++ [List.replicate Z 0] = (zeroRows d).take (K + 1) := by
            rw [zeroRows_snoc hkl.out, ← hr1.out, ← HA.out, hrow.out]
          rw [hZr] at hT9
          have HT9 := hide hT9
          have HEnd := hide ((hbel.trans (hb9'.mono (by omega))).setCell (p := ⟨w2.heap.size, 1, none⟩) (Nat.le_refl _) (.slice D9 (K + 1) m9))
          clear h78 ho8 hB9 hT9 hb9' hS hbx9 hfr9 hZr hcc7 hcj7 hf7 hc9 hf9 hown9 hb9 hg9 hn9 k0 k1 j0 j1 hf0 hf1 hbel
          go_wp2
          exact ⟨⟨K + 1, by omega, by go_num, ⟨D9, m9, HBX9.out, r9, HB9.out, HT9.out⟩, HF9.out, HEnd.out⟩, by simp [intOf]; omega⟩
      · obtain rfl : n = K := by omega
        have hzl := hide (show (zeroRows d).take n = zeroRows d from List.take_of_length_le (by rw [zeroRows_len]; have := hl1.out; omega))
        rw [hzl.out] at hto
        have hO := StatsO.of (d := ⟨List.replicate m 0, zeroRows d⟩) HTot.out hbag hto hbel (by omega) (by omega) (by omega) (by omega) (fun l hl => by
          obtain ⟨a, -, rfl⟩ := List.mem_map.1 hl
          have := zeroRow_len (c := d.classes.length) (a := a) (by rw [← hr1.out]; exact hm3)
          omega)
        have hfin := hide (show statsNewD d = ⟨List.replicate m 0, zeroRows d⟩ by rw [statsNewD_yes H1.out, ← hr1.out])
        have HO := hide hO
        have hY3 := hY2.keep hbel
        have hY2l := hY2.lt
        have hr0 := (hbel.frozen (p := ⟨w.heap.size + 1, 0, none⟩) (by show w.heap.size + 1 < _; omega)).trans HF2.out.1
        have hr1' := (hbel.frozen (p := ⟨w.heap.size + 1, 1, none⟩) (by show w.heap.size + 1 < _; omega)).trans HF2.out.2
        have hB3 := hide (bthen hB hbel)
        have hXe := hX2.keep hbel
        clear hO hbag hto hB hbel hY2 hX2
        obtain ⟨k0, k1, k2⟩ := id hY3
        obtain ⟨j0, j1, j2⟩ := id hbx
        obtain ⟨i0, i1, i2⟩ := id hXe
        go_wp2
        have hW2 : Only (fun j => w.heap.size + 1 = j) wr ((wr.setCell ⟨w.heap.size + 1, 0, none⟩ (.slice (some ⟨w1.heap.size, 0, none⟩) m m)).setCell ⟨w.heap.size + 1, 1, none⟩ (.slice A' n c')) :=
          ((Only.refl _ wr).setCell (p := ⟨w.heap.size + 1, 0, none⟩) rfl _).setCell (p := ⟨w.heap.size + 1, 1, none⟩) rfl _
        exact bodyPost_ret (v := .agg #[.slice (some ⟨w1.heap.size, 0, none⟩) m m, .slice A' n c']) (by simp [results, Try.results19, go_sem, k0, k1]) rfl
          ⟨_, _, rfl, by rw [hfin.out]; exact ((HO.out.only hW2 (fun j hj => .inl (by omega))).mono (by omega)).up (by simp), (hB3.out.setCell (by simp) _).setCell (by simp) _⟩
end Go.Proofs.Ytjdncobdecdhmaa
