/-
  Contracts: right examples.
-/
import Derived.Test.YtjdncobdecdhmaaSchemaOk2
import Derived.IntWalk
namespace Go.Proofs.Ytjdncobdecdhmaa
open Go.RowKit
set_option maxRecDepth 100000

def fitB (s : SchemaD) (e : ExD) (i : Nat) : Bool := inB (e.bins[i]?.getD 0) (-1) (binsOf (s.attrs[i]?.getD default) - 1)
/-- A right example of a right schema. -/
def exB (s : SchemaD) (e : ExD) : Bool := schemaB s && (decide (e.bins.length = s.attrs.length) && (inB e.cls (-1) ((s.classes.length : Int) - 1) && (List.range e.bins.length).all (fitB s e)))
theorem exB_no {s : SchemaD} {e : ExD} (h : schemaB s = false) : exB s e = false := by rw [exB, h]; rfl
theorem exB_len {s : SchemaD} {e : ExD} (h : ¬ e.bins.length = s.attrs.length) : exB s e = false := by simp [exB, h]
theorem exB_cls {s : SchemaD} {e : ExD} (h : inB e.cls (-1) ((s.classes.length : Int) - 1) = false) : exB s e = false := by simp [exB, h]
theorem range_snoc {p : Nat → Bool} {k : Nat} (h : (List.range k).all p = true) (hp : p k = true) : (List.range (k + 1)).all p = true := by
  rw [List.range_succ, List.all_append, h]; simp [hp]
theorem range_bad {p : Nat → Bool} {k n : Nat} (hk : k < n) (hp : p k = false) : (List.range n).all p = false := by
  rw [List.all_eq_false]; exact ⟨k, List.mem_range.2 hk, by simp [hp]⟩
theorem exB_bad {s : SchemaD} {e : ExD} {k : Nat} (hk : k < e.bins.length) (h : fitB s e k = false) : exB s e = false := by
  rw [exB, range_bad hk h]; simp
theorem exB_all {s : SchemaD} {e : ExD} (h1 : schemaB s = true) (h2 : e.bins.length = s.attrs.length) (h3 : inB e.cls (-1) ((s.classes.length : Int) - 1) = true) (h4 : (List.range e.bins.length).all (fitB s e) = true) : exB s e = true := by
  rw [exB, h1, h3, h4, decide_eq_true h2]; rfl
theorem binsOf_bd (a : AttrD) : 0 ≤ binsOf a ∧ binsOf a ≤ 4 := by
  unfold binsOf
  split
  · rename_i h
    unfold attrB at h
    rw [Bool.and_eq_true] at h
    have h2 := h.2
    split at h2
    · rename_i h0
      rw [if_neg (by omega)]
      rw [Bool.and_eq_true] at h2
      have := inB_iff.1 h2.1
      omega
    · rename_i h0
      rw [if_pos (by omega)]
      rw [Bool.and_eq_true] at h2
      unfold cutsB at h2
      rw [Bool.and_eq_true] at h2
      have := inB_iff.1 h2.2.1
      omega
  · omega
/-- What a region holds: two cells of boxes, a cell, an element of three cells. -/
def HeldX (w : World) (b1 b2 : Nat) (p q : Addr) (v1 v2 u x0 x1 x2 : Value) (W : World) : Prop :=
  W.cell? ⟨b1, 0, none⟩ = some v1 ∧ W.cell? ⟨b2, 0, none⟩ = some v2 ∧ W.cell? p = some u ∧ W.cell? q = some x0 ∧ W.cell? ⟨q.block, q.off + 1, none⟩ = some x1 ∧ W.cell? ⟨q.block, q.off + 2, none⟩ = some x2 ∧ Below w.heap.size w W
theorem HeldX.keep {w W W1 : World} {b1 b2 : Nat} {p q : Addr} {v1 v2 u x0 x1 x2 : Value} (hl : b1 < w.heap.size ∧ b2 < w.heap.size ∧ p.block < w.heap.size ∧ q.block < w.heap.size) (hW : Below W.heap.size W W1) (h : HeldX w b1 b2 p q v1 v2 u x0 x1 x2 W) : HeldX w b1 b2 p q v1 v2 u x0 x1 x2 W1 := by
  obtain ⟨h0, h1, h2, h3, h4, h5, h6⟩ := h
  obtain ⟨l1, l2, l3, l4⟩ := hl
  have := h6.size
  exact ⟨(hW.cell (p := ⟨b1, 0, none⟩) (by show b1 < _; omega)).trans h0, (hW.cell (p := ⟨b2, 0, none⟩) (by show b2 < _; omega)).trans h1, (hW.cell (p := p) (by omega)).trans h2,
    (hW.cell (p := q) (by omega)).trans h3, (hW.cell (p := ⟨q.block, q.off + 1, none⟩) (by show q.block < _; omega)).trans h4, (hW.cell (p := ⟨q.block, q.off + 2, none⟩) (by show q.block < _; omega)).trans h5, bthen h6 hW⟩
theorem HeldX.below {w W : World} {b1 b2 : Nat} {p q : Addr} {v1 v2 u x0 x1 x2 : Value} (h : HeldX w b1 b2 p q v1 v2 u x0 x1 x2 W) : Below w.heap.size w W := h.2.2.2.2.2.2
theorem HeldX.drew {w W : World} {b1 b2 : Nat} {p q : Addr} {v1 v2 u x0 x1 x2 : Value} (hl : b1 < w.heap.size ∧ b2 < w.heap.size ∧ p.block < w.heap.size ∧ q.block < w.heap.size) (h : HeldX w b1 b2 p q v1 v2 u x0 x1 x2 W) : HeldX w b1 b2 p q v1 v2 u x0 x1 x2 W.drew :=
  h.keep hl (Below.refl _ _).drew

set_option maxHeartbeats 4000000 in
theorem specExOk_any (x0 x1 y0 y1 : Value) (d : SchemaD) (e : ExD) (w : World) (h : SchemaM w x0 x1 d) (h' : ExM w y0 y1 e) :
    Calls Try.prog 126 #[.agg #[x0, x1], .agg #[y0, y1]] w fun r w' => r = .returned (.bool (exB d e)) ∧ Below w.heap.size w w' := by
  have hSM := hide h
  obtain ⟨A, n, c, D, m, k, rfl, rfl, hl, hn, hr, hs, hm, hmk⟩ := h
  obtain ⟨G, b, f, rfl, rfl, hg, hb, hwf⟩ := h'
  have hbox : Below w.heap.size w ((w.alloc (.cells #[.slice A n c, .slice D m k] 43)).alloc (.cells #[.slice G b f, .int .i64 e.cls] 129)) := ((Below.refl _ _).alloc (Nat.le_refl _) _).alloc (by simp) _
  obtain ⟨W, hW⟩ : ∃ W, W = ((w.alloc (.cells #[.slice A n c, .slice D m k] 43)).alloc (.cells #[.slice G b f, .int .i64 e.cls] 129)) := ⟨_, rfl⟩
  have hX := (Box2.new w (.slice A n c) (.slice D m k) 43).keep (Below.alloc (Below.refl _ _) (Nat.le_refl _) (.cells #[.slice G b f, .int .i64 e.cls] 129))
  have hY := Box2.new (w.alloc (.cells #[.slice A n c, .slice D m k] 43)) (.slice G b f) (.int .i64 e.cls) 129
  have hz : (w.alloc (.cells #[.slice A n c, .slice D m k] 43)).heap.size = w.heap.size + 1 := by simp
  rw [hz] at hY
  clear hz
  rw [← hW] at hX hY
  have HL := hide (hl.keep hbox)
  have HG := hide (hg.keep hbox)
  have HSM := hide (hSM.out.keep hbox)
  rw [← hW] at HL HG hbox HSM
  have hl1 := hide hl.1
  have hr1 := hide hr.1
  have hg1 := hide hg.1
  have HW := hide hW
  have hcl := bounds_i64 hwf
  clear hl hr hs hW hg hSM
  cases h1 : schemaB d
  · have hfin := hide (exB_no (e := e) h1)
    have H1 := hide h1
    clear h1
    go_enter Try.func126, Try.ntmps126
    go_wp2_with (fail)
    rw [← HW.out]
    refine (specSchemaOk_any _ _ d _ HSM.out).mono ?_
    rintro r w1 ⟨rfl, hb1⟩
    rw [H1.out]
    have hB := bthen hbox hb1
    clear hb1
    go_wp2
    go_ret
    exact ⟨ret_bool hfin.out.symm, hB⟩
  · have H1 := hide h1
    clear h1
    by_cases hbn : b = n
    · subst hbn
      cases h3 : inB e.cls (-1) ((m : Int) - 1)
      · have hfin := hide (exB_cls (s := d) (e := e) (by rw [← hr1.out]; exact h3))
        have H3 := hide h3
        clear h3
        go_enter Try.func126, Try.ntmps126
        go_wp2_with (fail)
        rw [← HW.out]
        refine (specSchemaOk_any _ _ d _ HSM.out).mono ?_
        rintro r w1 ⟨rfl, hb1⟩
        rw [H1.out]
        have hB := bthen hbox hb1
        obtain ⟨k0, k1, k2⟩ := hX.keep hb1
        obtain ⟨j0, j1, j2⟩ := hY.keep hb1
        clear hb1
        go_wp2_with (fail)
        refine (l1In_any _ _ _ _).mono ?_
        rintro r w' ⟨rfl, rfl⟩
        rw [H3.out]
        go_wp2
        go_ret
        exact ⟨ret_bool hfin.out.symm, hB⟩
      · have hfin := hide (show (List.range e.bins.length).all (fitB d e) = true → exB d e = true from exB_all H1.out (by rw [← hl1.out, ← hg1.out]) (by rw [← hr1.out]; exact h3))
        have H3 := hide h3
        clear h3
        go_enter Try.func126, Try.ntmps126
        go_wp2_with (fail)
        rw [← HW.out]
        refine (specSchemaOk_any _ _ d _ HSM.out).mono ?_
        rintro r w1 ⟨rfl, hb1⟩
        rw [H1.out]
        have hB := bthen hbox hb1
        have hX1 := hX.keep hb1
        have hY1 := hY.keep hb1
        obtain ⟨k0, k1, k2⟩ := id hX1
        obtain ⟨j0, j1, j2⟩ := id hY1
        have HL1 := hide (HL.out.keep hb1)
        have HG1 := hide (HG.out.keep hb1)
        clear hb1 hX hY hbox
        go_wp2_with (fail)
        refine (l1In_any _ _ _ _).mono ?_
        rintro r w' ⟨rfl, rfl⟩
        rw [H3.out]
        go_wp2
        clear k0 k1 k2 j0 j1 j2
        go_loopw [5] (fun i wr => ∃ K : Nat, K ≤ b ∧ i = .int .i64 K ∧ Hid ((List.range K).all (fitB d e) = true) ∧ Below w1.heap.size w1 wr) (fun i _ => b - (intOf i).toNat)
        case atStart => exact ⟨0, Nat.zero_le _, rfl, show _ = _ by simp, Below.refl _ _⟩
        case round =>
          obtain ⟨K, hk, rfl, hall, hbel⟩ := hrel
          have hX2 := hX1.keep hbel
          have hY2 := hY1.keep hbel
          obtain ⟨k0, k1, k2⟩ := id hX2
          obtain ⟨j0, j1, j2⟩ := id hY2
          have hend := hide (bthen hB hbel)
          by_cases hlt : K < b
          · obtain ⟨ad, A1, n1, c1, A2, n2, c2, rfl, hbk, g0, g1, g2, hI⟩ := (HL1.out.keep hbel).at_ hlt
            obtain ⟨ag, rfl, hbg, hcell⟩ := (HG1.out.keep hbel).at_ hlt
            have hkl := hide (show K < e.bins.length by have := hg1.out; omega)
            have hbd := binsOf_bd (d.attrs[K]?.getD default)
            have HI := hide hI
            have hi0 : (0 : Int) ≤ K := by omega
            have hi1 : (K : Int) < b := by omega
            obtain ⟨a, ha⟩ : ∃ a, a = d.attrs[K]?.getD default := ⟨_, rfl⟩
            rw [← ha] at g0 HI hbd
            obtain ⟨x, hx⟩ : ∃ x, x = e.bins[K]?.getD 0 := ⟨_, rfl⟩
            rw [← hx] at hcell
            have hft := hide (show fitB d e K = inB x (-1) (binsOf a - 1) by rw [fitB, ← ha, ← hx])
            have hP := hide (show w.heap.size < wr.heap.size ∧ w.heap.size + 1 < wr.heap.size ∧ (ag.add K).block < wr.heap.size ∧ (ad.add (K * 3)).block < wr.heap.size from ⟨k2, j2, by rw [block_of_add]; exact hbg, by rw [block_of_add]; exact hbk⟩)
            have HS : HeldX wr w.heap.size (w.heap.size + 1) (ag.add K) (ad.add (K * 3)) (.slice (some ad) b c) (.slice (some ag) b f) (.int .i64 x) (.string a.name) (.slice A1 n1 c1) (.slice A2 n2 c2) wr := ⟨k0, j0, hcell, g0, g1, g2, Below.refl _ _⟩
            have hwr : IntKind.i64.wrap (binsOf a - 1) = binsOf a - 1 := IntWalk.i64_in _ (by omega)
            clear hI ha hx hbk hbg
            clear hcell g0 g1 g2
            go_wp2
            clear k0 k1 k2 j0 j1 j2
            unfold HeldX at HS
            go_region_held3 (fun V => V.cell? ⟨w.heap.size, 0, none⟩ = some (.slice (some ad) b c) ∧ V.cell? ⟨w.heap.size + 1, 0, none⟩ = some (.slice (some ag) b f) ∧ V.cell? (ag.add K) = some (.int .i64 x) ∧ V.cell? (ad.add (K * 3)) = some (.string a.name) ∧ V.cell? ⟨(ad.add (K * 3)).block, (ad.add (K * 3)).off + 1, none⟩ = some (.slice A1 n1 c1) ∧ V.cell? ⟨(ad.add (K * 3)).block, (ad.add (K * 3)).off + 2, none⟩ = some (.slice A2 n2 c2) ∧ Below wr.heap.size wr V) (first | assumption | exact HeldX.keep hP.out (by assumption) (by assumption) | exact HeldX.drew hP.out (by assumption)) (first | (go_at_call 51; refine (specBins_any _ _ _ _ _ _ a _ (HI.out.keep (HeldX.below (by assumption)))).mono ?_; rintro r w7 ⟨rfl, hb7⟩) | (go_at_call 64; refine (l1In_any _ _ _ _).mono ?_; rintro r w8 ⟨rfl, rfl⟩))
            have hH : HeldX wr w.heap.size (w.heap.size + 1) (ag.add K) (ad.add (K * 3)) (.slice (some ad) b c) (.slice (some ag) b f) (.int .i64 x) (.string a.name) (.slice A1 n1 c1) (.slice A2 n2 c2) w7 := by assumption
            have hbel2 := bthen hbel hH.below
            have hend2 := hide (bthen hB hbel2)
            clear hH HS hwr hbel hend
            cases hf : inB x (-1) (binsOf a - 1)
            · have hbad := hide (exB_bad hkl.out (by rw [hft.out]; exact hf))
              go_wp2
              go_ret
              exact ⟨ret_bool hbad.out.symm, hend2.out⟩
            · have hall' := hide (range_snoc hall.out (by rw [hft.out]; exact hf))
              go_wp2
              go_roundw
              case rel => exact ⟨K + 1, by omega, by go_num, hall', hbel2⟩
              case measure => simp [intOf]; omega
          · obtain rfl : K = b := by omega
            have hf := hide (hfin.out (by rw [← hg1.out]; exact hall.out))
            go_wp2
            go_ret
            exact ⟨ret_bool hf.out.symm, hend.out⟩
    · have hfin := hide (exB_len (s := d) (e := e) (by rw [← hl1.out, ← hg1.out]; exact hbn))
      have hne : ((b : Int) != (n : Int)) = true := by rw [bne_iff_ne]; omega
      clear hbn
      go_enter Try.func126, Try.ntmps126
      go_wp2_with (fail)
      rw [← HW.out]
      refine (specSchemaOk_any _ _ d _ HSM.out).mono ?_
      rintro r w1 ⟨rfl, hb1⟩
      rw [H1.out]
      have hB := bthen hbox hb1
      obtain ⟨k0, k1, k2⟩ := hX.keep hb1
      obtain ⟨j0, j1, j2⟩ := hY.keep hb1
      clear hb1
      go_wp2
      go_ret
      exact ⟨ret_bool hfin.out.symm, hB⟩
end Go.Proofs.Ytjdncobdecdhmaa
