/-
  Contracts: new statistics.
-/
import Derived.Test.YtjdncobdecdhmaaStatsTotal
import Derived.Test.YtjdncobdecdhmaaClone
import Derived.Deep.RegionLaw
namespace Go.Proofs.Ytjdncobdecdhmaa
open Go.RowKit
set_option maxRecDepth 100000

def zeroRow (c : Nat) (a : AttrD) : List Int := List.replicate ((binsOf a).toNat * c) 0
def zeroRows (d : SchemaD) : List (List Int) := d.attrs.map (zeroRow d.classes.length)
/-- New statistics of a schema. -/
def statsNewD (d : SchemaD) : StatsD := if schemaB d = true then ⟨List.replicate d.classes.length 0, zeroRows d⟩ else ⟨[], []⟩
theorem statsNewD_no {d : SchemaD} (h : schemaB d = false) : statsNewD d = ⟨[], []⟩ := by unfold statsNewD; rw [h]; rfl
theorem statsNewD_yes {d : SchemaD} (h : schemaB d = true) : statsNewD d = ⟨List.replicate d.classes.length 0, zeroRows d⟩ := by unfold statsNewD; rw [if_pos h]
theorem zeroRow_len {c : Nat} {a : AttrD} (hc : c ≤ 3) : (zeroRow c a).length ≤ 12 := by
  have := (binsOf_bd a).2
  unfold zeroRow
  rw [List.length_replicate]
  have h1 : (binsOf a).toNat ≤ 4 := by omega
  exact Nat.mul_le_mul h1 hc
theorem zeroRows_snoc {d : SchemaD} {K : Nat} (h : K < d.attrs.length) : (zeroRows d).take (K + 1) = (zeroRows d).take K ++ [zeroRow d.classes.length (d.attrs[K]?.getD default)] := by
  have hl : K < (zeroRows d).length := by unfold zeroRows; simpa using h
  have e : (zeroRows d)[K]?.getD [] = zeroRow d.classes.length (d.attrs[K]?.getD default) := by simp [zeroRows, h]
  rw [List.take_succ_eq_append_getElem hl, ← e, getD_of_lt hl]
theorem schemaB_few {d : SchemaD} (h : schemaB d = true) : 1 ≤ d.attrs.length ∧ d.attrs.length ≤ 5 := by
  unfold schemaB at h
  simp only [Bool.and_eq_true] at h
  have := inB_iff.1 h.1
  omega
theorem zeroRows_len (d : SchemaD) : (zeroRows d).length = d.attrs.length := by simp [zeroRows]

/-- One row more at the end of rows that own themselves. -/
theorem RowsTo.snoc {B : Nat} {w w1 w2 : World} {r : Nat → Row} {A D : Option Addr} {n c n' m' : Nat} {ls : List (List Int)} {l : List Int} {v : Value}
    (h : RowsTo r A n c ls n) (hb : Bag B (1 + n) w r) (ho : w1.ownsRow w.heap.size 3 1 (.slice D n' m') n' (l.map (Value.int .i64))) (hw : Below w.heap.size w w1) (hB : B ≤ w.heap.size)
    (hv : w2.ownsRow B 28 1 v (n + 1) ((r 0).xs ++ [.slice D n' m'])) (hg : w1.grownBy w2 (Value.ownBlock (.slice A n c))) (hnew : ∀ g, v.ownBlock = some g → Value.ownBlock (.slice A n c) = some g ∨ w1.heap.size ≤ g) :
    ∃ A2 c2 r', v = .slice A2 (n + 1) c2 ∧ Bag B (1 + (n + 1)) w2 r' ∧ RowsTo r' A2 (n + 1) c2 (ls ++ [l]) (n + 1) := by
  have h1 : Bag B (1 + n + 1) w1 (rput r (1 + n) (intRow D n' m' l)) := by
    refine hb.snoc hw ?_ fun g' hg' => (ho.lt g' hg').1
    have := Bag.mono (Bag.one (s := intRow D n' m' l) ho) hB
    exact this.own 0 (by omega)
  have hO := h.outer hb (by omega)
  have e0 : rput r (1 + n) (intRow D n' m' l) 0 = r 0 := rput_other _ _ (by omega)
  obtain ⟨A2, c2, rfl⟩ := own_shape hv
  refine ⟨A2, c2, rput (rput r (1 + n) (intRow D n' m' l)) 0 ⟨28, 1, .slice A2 (n + 1) c2, n + 1, (r 0).xs ++ [.slice D n' m']⟩, rfl, ?_, ?_⟩
  · refine h1.turn (i := 0) (by omega) ?_ hv ?_
    · rw [e0, h.blk]; exact hg
    · rw [e0, h.blk]; exact hnew
  · have hxl : (r 0).xs.length = n := by have := hO.1; omega
    have hln := h.len
    refine ⟨by simp [hln], ?_, fun i hi => ?_⟩
    · rw [rput_same]; exact ⟨rfl, rfl, rfl, rfl⟩
    · rw [rput_same, rput_other _ _ (show i + 1 ≠ 0 by omega)]
      by_cases e : i = n
      · subst e
        rw [show i + 1 = 1 + i by omega, rput_same]
        refine ⟨D, n', m', by rw [List.getElem?_append_right (by omega), hxl, Nat.sub_self]; rfl, ?_⟩
        rw [List.getElem?_append_right (by omega), ← hln, Nat.sub_self]; rfl
      · obtain ⟨A', n'', c', k1, k2⟩ := h.rows i (by omega)
        rw [rput_other _ _ (by omega)]
        refine ⟨A', n'', c', by rw [List.getElem?_append_left (by omega)]; exact k1, ?_⟩
        rw [k2, List.getElem?_append_left (by omega)]
theorem RowsTo.nil {w : World} (B : Nat) : Bag B (1 + 0) w (fun _ => ⟨28, 1, .slice none 0 0, 0, []⟩) ∧ RowsTo (fun _ => ⟨28, 1, .slice none 0 0, 0, []⟩) none 0 0 [] 0 :=
  ⟨Bag.one (World.ownsRow_nil _ _ _ _), rfl, ⟨rfl, rfl, rfl, rfl⟩, fun i hi => by omega⟩
theorem mul_bins {b : Int} {m : Nat} (h0 : 0 ≤ b) (h4 : b ≤ 4) (hm : m ≤ 3) : IntKind.i64.wrap (b * (m : Int)) = ((b.toNat * m : Nat) : Int) ∧ wrap64 (b * (m : Int)) = ((b.toNat * m : Nat) : Int) ∧ b.toNat * m ≤ 12 := by
  obtain ⟨k, rfl⟩ := Int.eq_ofNat_of_zero_le h0
  have h1 : k * m ≤ 4 * 3 := Nat.mul_le_mul (by omega) hm
  refine ⟨?_, ?_, by simpa using h1⟩
  · rw [← Int.natCast_mul]
    simp only [Int.toNat_natCast]
    exact IntWalk.i64_in _ (by omega)
  · rw [← Int.natCast_mul]
    simp only [Int.toNat_natCast]
    generalize k * m = P at *
    unfold wrap64
    omega
theorem new_one (W : World) (u : Value) (e : TypeId) : ∀ j v, ([u] : List Value)[j]? = some v → ∃ a, some (⟨W.heap.size, 0, none⟩ : Addr) = some a ∧ (W.alloc (.cells #[u] e)).cell? (a.add j) = some v := by
  intro j v hj
  rcases j with _ | j
  · simp only [List.getElem?_cons_zero, Option.some.injEq] at hj
    subst hj
    exact ⟨_, rfl, by rw [show (⟨W.heap.size, 0, none⟩ : Addr).add 0 = ⟨W.heap.size, 0, none⟩ by simp [Addr.add], cell_of_row _ W.heap.size 0 #[u] e (0, 0) (heap_alloc_new W _)]; rfl⟩
  · simp at hj

/-- One cell held. -/
theorem held1_below {W W1 : World} {p : Addr} {v : Value} (hb : Below W.heap.size W W1) (h : W.cell? p = some v ∧ p.block < W.heap.size) : W1.cell? p = some v ∧ p.block < W1.heap.size :=
  ⟨(hb.cell h.2).trans h.1, Nat.lt_of_lt_of_le h.2 hb.size⟩
theorem held1_low {B : Nat} {W W1 : World} {p : Addr} {v : Value} (hb : Below B W W1) (hp : p.block < B) (h : W.cell? p = some v ∧ p.block < W.heap.size) : W1.cell? p = some v ∧ p.block < W1.heap.size :=
  ⟨(hb.cell hp).trans h.1, Nat.lt_of_lt_of_le h.2 hb.size⟩
theorem set_box2 {w : World} {b : Nat} {x y z : Value} (h : Box2 w b x y) : Box2 (w.setCell ⟨b, 1, none⟩ z) b x z := by
  obtain ⟨h0, h1, h2⟩ := h
  exact ⟨by go_simp, by go_simp, by simpa using h2⟩

set_option maxHeartbeats 8000000 in
theorem implStatsNew_any (x0 x1 : Value) (d : SchemaD) (w : World) (h : SchemaM w x0 x1 d) :
    Calls Try.prog 21 #[.agg #[x0, x1]] w fun e w' => ∃ y0 y1, e = .returned (.agg #[y0, y1]) ∧ StatsO w.heap.size w'.heap.size w' y0 y1 (statsNewD d) ∧ Below w.heap.size w w' := by
  have hSM := hide h
  obtain ⟨A, n, c, D, m, k, rfl, rfl, hl, hn, hr, hs, hm, hmk⟩ := h
  have hbox : Below w.heap.size w ((w.alloc (.cells #[.slice A n c, .slice D m k] 43)).alloc (.cells #[.slice none 0 0, .slice none 0 0] 39)) := ((Below.refl _ _).alloc (Nat.le_refl _) _).alloc (by simp) _
  obtain ⟨W, hW⟩ : ∃ W, W = ((w.alloc (.cells #[.slice A n c, .slice D m k] 43)).alloc (.cells #[.slice none 0 0, .slice none 0 0] 39)) := ⟨_, rfl⟩
  have hX := (Box2.new w (.slice A n c) (.slice D m k) 43).keep (Below.alloc (Below.refl _ _) (Nat.le_refl _) (.cells #[.slice none 0 0, .slice none 0 0] 39))
  have hY := Box2.new (w.alloc (.cells #[.slice A n c, .slice D m k] 43)) (.slice none 0 0) (.slice none 0 0) 39
  have hz : (w.alloc (.cells #[.slice A n c, .slice D m k] 43)).heap.size = w.heap.size + 1 := by simp
  rw [hz] at hY
  clear hz
  have hfr : W.frozen? ⟨w.heap.size + 1, 0, none⟩ = false ∧ W.frozen? ⟨w.heap.size + 1, 1, none⟩ = false := by rw [hW]; exact ⟨by go_simp, by go_simp⟩
  have hzW : W.heap.size = w.heap.size + 2 := by rw [hW]; simp
  rw [← hW] at hX hY
  have HL := hide (hl.keep hbox)
  have HSM := hide (hSM.out.keep hbox)
  rw [← hW] at HL hbox HSM
  have hl1 := hide hl.1
  have hr1 := hide hr.1
  have HW := hide hW
  have HZ := hide hzW
  have HF := hide hfr
  clear hl hr hs hW hSM hzW hfr
  cases h1 : schemaB d
  · have hfin := hide (statsNewD_no h1)
    have H1 := hide h1
    obtain ⟨k0, k1, k2⟩ := id hX
    clear h1
    go_enter Try.func21, Try.ntmps21
    go_wp2_with (fail)
    rw [← HW.out]
    refine (implSchemaOk_any _ _ d _ HSM.out).mono ?_
    rintro r w1 ⟨rfl, hb1⟩
    rw [H1.out]
    have hB := bthen hbox hb1
    have hY1 := hY.keep hb1
    have hf0 := (hb1.frozen (p := ⟨w.heap.size + 1, 0, none⟩) hY.lt).trans HF.out.1
    have hf1 := (hb1.frozen (p := ⟨w.heap.size + 1, 1, none⟩) hY.lt).trans HF.out.2
    have hzz := hide (show w.heap.size + 2 ≤ w1.heap.size by rw [← HZ.out]; exact hb1.size)
    clear hb1 hX k0 k1 k2
    obtain ⟨k0, k1, k2⟩ := id hY1
    go_wp2
    have hO : StatsO w1.heap.size w1.heap.size w1 (.slice none 0 0) (.slice none 0 0) ⟨[], []⟩ := StatsO.thin (l := []) (World.ownsRow_nil _ _ _ _) (by omega) (Nat.le_refl _)
    have hW2 : Only (fun j => w.heap.size + 1 = j) w1 ((w1.setCell ⟨w.heap.size + 1, 0, none⟩ (.slice none 0 0)).setCell ⟨w.heap.size + 1, 1, none⟩ (.slice none 0 0)) :=
      ((Only.refl _ w1).setCell (p := ⟨w.heap.size + 1, 0, none⟩) rfl _).setCell (p := ⟨w.heap.size + 1, 1, none⟩) rfl _
    exact bodyPost_ret (v := .agg #[.slice none 0 0, .slice none 0 0]) (by simp [results, Try.results21, go_sem, k0, k1]) rfl
      ⟨_, _, rfl, by rw [hfin.out]; exact ((hO.only hW2 (fun j hj => .inl (by have := hzz.out; omega))).mono (by have := hzz.out; omega)).up (by simp), (hB.setCell (by simp) _).setCell (by simp) _⟩
  · have H1 := hide h1
    clear h1
    have hXc := hide hX
    obtain ⟨k0, k1, k2⟩ := hX
    go_enter Try.func21, Try.ntmps21
    go_wp2_with (fail)
    rw [← HW.out]
    refine (implSchemaOk_any _ _ d _ HSM.out).mono ?_
    rintro r w1 ⟨rfl, hb1⟩
    rw [H1.out]
    have hB := bthen hbox hb1
    have hX1 := hXc.out.keep hb1
    have hY1 := hY.keep hb1
    have HL1 := hide (HL.out.keep hb1)
    have HF1 := hide (And.intro ((hb1.frozen (p := ⟨w.heap.size + 1, 0, none⟩) hY.lt).trans HF.out.1) ((hb1.frozen (p := ⟨w.heap.size + 1, 1, none⟩) hY.lt).trans HF.out.2))
    have hzz : w.heap.size + 2 ≤ w1.heap.size := by rw [← HZ.out]; exact hb1.size
    clear hb1 k0 k1 k2 hY hbox HL hXc HF
    obtain ⟨k0, k1, k2⟩ := id hX1
    have hm23 := hide (show m = 2 ∨ m = 3 by rw [hr1.out]; exact schemaB_classes H1.out)
    have hm3 : m ≤ 3 := by rcases hm23.out with h | h <;> omega
    have hn5 : n ≤ 5 := by rw [hl1.out]; exact (schemaB_few H1.out).2
    go_wp2_with (fail)
    refine (zeros_any m _ (by omega)).mono ?_
    rintro e w2 ⟨rfl, hot, hb2⟩
    have hX2 := hX1.keep hb2
    have hY2 := hY1.keep hb2
    have HL2 := hide (HL1.out.keep hb2)
    have HF2 := hide (And.intro ((hb2.frozen (p := ⟨w.heap.size + 1, 0, none⟩) hY1.lt).trans HF1.out.1) ((hb2.frozen (p := ⟨w.heap.size + 1, 1, none⟩) hY1.lt).trans HF1.out.2))
    replace hB := bthen hB hb2
    have hzz2 := hb2.size
    have HTot := hide hot
    clear hb2 hX1 hY1 HL1 HF1 hot k0 k1 k2
    obtain ⟨k0, k1, k2⟩ := id hX2
    go_wp2
    clear k0 k1 k2
    obtain ⟨g0, h0⟩ := RowsTo.nil (w := w2.alloc (.cells #[.slice (some ⟨w1.heap.size, 0, none⟩) m m, .slice none 0 0] 39)) (w2.heap.size + 1)
    have hT3 := Box2.new w2 (.slice (some ⟨w1.heap.size, 0, none⟩) m m) (.slice none 0 0) 39
    have hstart := hide (And.intro g0 h0)
    have hf0 : (w2.alloc (.cells #[.slice (some ⟨w1.heap.size, 0, none⟩) m m, .slice none 0 0] 39)).frozen? ⟨w2.heap.size, 0, none⟩ = false ∧ (w2.alloc (.cells #[.slice (some ⟨w1.heap.size, 0, none⟩) m m, .slice none 0 0] 39)).frozen? ⟨w2.heap.size, 1, none⟩ = false := ⟨by go_simp, by go_simp⟩
    have HF0 := hide hf0
    clear g0 h0 hf0
    go_loopw [18] (fun i wr => ∃ K : Nat, K ≤ n ∧ i = .int .i64 K ∧ (∃ A' c', Box2 wr w2.heap.size (.slice (some ⟨w1.heap.size, 0, none⟩) m m) (.slice A' K c') ∧ ∃ r, Bag (w2.heap.size + 1) (1 + K) wr r ∧ RowsTo r A' K c' ((zeroRows d).take K) K) ∧ (wr.frozen? ⟨w2.heap.size, 0, none⟩ = false ∧ wr.frozen? ⟨w2.heap.size, 1, none⟩ = false) ∧ Below w2.heap.size w2 wr) (fun i _ => n - (intOf i).toNat)
    case atStart => exact ⟨0, Nat.zero_le _, rfl, ⟨_, _, hT3, _, hstart.out.1, hstart.out.2⟩, HF0.out, (Below.refl _ _).alloc (Nat.le_refl _) _⟩
    case round =>
      clear hT3 hstart HF0
      obtain ⟨K, hk, rfl, ⟨A', c', hbx, r, hbag, hto⟩, ⟨hf0, hf1⟩, hbel⟩ := hrel
      by_cases hlt : K < n
      · obtain ⟨ad, A1, n1, c1, A2, n2, c2, rfl, hbk, g0, g1, g2, hI⟩ := (HL2.out.keep hbel).at_ hlt
        have hX3 := hX2.keep hbel
        have hkl := hide (show K < d.attrs.length by have := hl1.out; omega)
        obtain ⟨a, ha⟩ : ∃ a, a = d.attrs[K]?.getD default := ⟨_, rfl⟩
        rw [← ha] at g0 hI
        have HA := hide ha
        have hok : attrB a = true := by
          rw [ha, getD_of_lt hkl.out]
          exact schemaB_attr H1.out (List.getElem_mem hkl.out)
        have hbn := hide (show binsOf a = binN n1 n2 by rw [binsOf, binN, if_pos hok, hI.cuts.1, hI.vals.1])
        obtain ⟨hb0, hb4⟩ := binsOf_bd a
        obtain ⟨hmul, hw64, hZ⟩ := mul_bins hb0 hb4 hm3
        have hrow := hide (show zeroRow m a = List.replicate ((binsOf a).toNat * m) 0 by unfold zeroRow; rfl)
        obtain ⟨Z, hZe⟩ : ∃ Z, Z = (binsOf a).toNat * m := ⟨_, rfl⟩
        rw [← hZe] at hmul hw64 hZ hrow
        rw [hbn.out] at hmul hw64
        have HI := hide hI
        have HB := hide hbag
        have HT := hide hto
        have hn1 := hI.b1
        obtain ⟨k0, k1, k2⟩ := id hX3
        obtain ⟨j0, j1, j2⟩ := id hbx
        have hz3 := hbel.size
        have hi0 : (0 : Int) ≤ K := by omega
        have hi1 : (K : Int) < n := by omega
        clear hok hI hbag hto ha hZe hb0 hb4
        go_wp2
        have hbxs : Below wr.heap.size wr (wr.alloc (.cells #[.string a.name, .slice A1 n1 c1, .slice A2 n2 c2] 73)).drew := ((Below.refl _ _).alloc (Nat.le_refl _) _).drew
        have HBX := hide hbxs
        have hgo := hide (fun (W w7 : World) (hb7 : Below wr.heap.size wr w7) => (⟨HT.out.outer (HB.out.below hb7) (by omega), HB.out.below hb7⟩ : w7.ownsRow (w2.heap.size + 1) 28 1 (.slice A' K c') K (r 0).xs ∧ Bag (w2.heap.size + 1) (1 + K) w7 r))
        have hww : w.heap.size < w2.heap.size := by omega
        clear hbxs hX2 HL2 HSM HW HZ H1 HTot HF2 hY2 hzz2 hX3 hbx HI hm23 hB
        go_region_law (first
          | (go_simp; go_at_call 56; refine (bins_any A1 n1 c1 A2 n2 c2 a.name _ hn1).mono ?_; rintro e w7 ⟨rfl, hb7⟩; obtain ⟨hc7, hf7⟩ := bcell hb7; have hz7 : wr.heap.size + 1 ≤ w7.heap.size := (by have := hb7.size; simpa using this); have hq7 : w2.heap.size < w7.heap.size := (by omega); have hp7 : w.heap.size < w7.heap.size := (by omega); have HC7 := hide (bthen HBX.out hb7); clear hb7)
          | (go_simp; go_at_call 55; refine (zeros_any Z _ (by omega)).mono ?_; rintro e w8 ⟨rfl, ho8, hb8⟩; obtain ⟨hc8, hf8⟩ := bcell hb8; have hz8 := hb8.size; have hq8 : w2.heap.size < w8.heap.size := (by omega); have HO8 := hide ho8; have HC8 := hide hb8; clear ho8 hb8)
          | (refine step_append_src _ rfl (.tmp 23) (.tmp 31) 37 rfl (w2.heap.size + 1) 28 (.slice none 0 0) 1 24 Try.underlying37 infoR rfl (by decide) (.slice A' K c') K (r 0).xs [.slice (some ⟨w7.heap.size, 0, none⟩) Z Z] rfl ((hgo.out w7 w8 (bthen HC7.out HC8.out)).1.alloc _) _ 1 1 rfl rfl (new_one _ _ _) (by simp [Value.oneCell']) (by unfold maxLen; omega) (by omega) (by simp; omega) ?_; intro v' w9 hown9 hb9 hg9 hn9; obtain ⟨D9, m9, rfl⟩ := own_shape hown9; have hc9 := fun b o h => hb9.cell (p := ⟨b, o, none⟩) h; have hf9 := fun b o h => hb9.frozen (p := ⟨b, o, none⟩) h; have hz9 := hb9.size))
        all_goals
          have hal : Below w8.heap.size w8 (w8.alloc (.cells #[.slice (some ⟨w7.heap.size, 0, none⟩) Z Z] 28)) := (Below.refl _ _).alloc (Nat.le_refl _) _
          have h78 := bthen HC8.out hal
          obtain ⟨A9, c9, r9, e9, hB9, hT9⟩ := HT.out.snoc (HB.out.below HC7.out) (own_below HO8.out hal) h78 (by omega) hown9 hg9 hn9
          injection e9 with e91 _ e92
          subst e91 e92
          have hb9' := ((bthen HC7.out h78).mono (B' := w2.heap.size + 1) (by omega)).trans hb9
          have hS : Only (fun j => w2.heap.size = j) w9 (w9.setCell ⟨w2.heap.size, 1, none⟩ (.slice D9 (K + 1) m9)) := (Only.refl _ w9).setCell (p := ⟨w2.heap.size, 1, none⟩) rfl _
          have hbx9 : Box2 w9 w2.heap.size (.slice (some ⟨w1.heap.size, 0, none⟩) m m) (.slice A' K c') :=
            ⟨(hb9'.cell (p := ⟨w2.heap.size, 0, none⟩) (by simp)).trans j0, (hb9'.cell (p := ⟨w2.heap.size, 1, none⟩) (by simp)).trans j1, Nat.lt_of_lt_of_le j2 hb9'.size⟩
          have hfr9 : w9.frozen? ⟨w2.heap.size, 0, none⟩ = false ∧ w9.frozen? ⟨w2.heap.size, 1, none⟩ = false := ⟨(hb9'.frozen (p := ⟨w2.heap.size, 0, none⟩) (by simp)).trans hf0, (hb9'.frozen (p := ⟨w2.heap.size, 1, none⟩) (by simp)).trans hf1⟩
          have HBX9 := hide (set_box2 (z := .slice D9 (K + 1) m9) hbx9)
          have HF9 := hide (show (w9.setCell ⟨w2.heap.size, 1, none⟩ (.slice D9 (K + 1) m9)).frozen? ⟨w2.heap.size, 0, none⟩ = false ∧ (w9.setCell ⟨w2.heap.size, 1, none⟩ (.slice D9 (K + 1) m9)).frozen? ⟨w2.heap.size, 1, none⟩ = false from by simpa using hfr9)
          have HB9 := hide (hB9.only hS (fun j hj e => by have := (hB9.lt hj).1; omega))
          have hZr : (zeroRows d).take K ++ [List.replicate Z 0] = (zeroRows d).take (K + 1) := by
            rw [zeroRows_snoc hkl.out, ← hr1.out, ← HA.out, hrow.out]
          rw [hZr] at hT9
          have HT9 := hide hT9
          have HEnd := hide ((hbel.trans (hb9'.mono (by omega))).setCell (p := ⟨w2.heap.size, 1, none⟩) (Nat.le_refl _) (.slice D9 (K + 1) m9))
          clear hal h78 hB9 hT9 hb9' hS hbx9 hfr9 hZr hc7 hf7 hc8 hf8 hc9 hf9 hown9 hb9 hg9 hn9 k0 k1 j0 j1 hf0 hf1 hbel
          go_wp2
          exact ⟨⟨K + 1, by omega, by go_num, ⟨D9, m9, HBX9.out, r9, HB9.out, HT9.out⟩, HF9.out, HEnd.out⟩, by simp [intOf]; omega⟩
      · obtain rfl : n = K := by omega
        have hzl := hide (show (zeroRows d).take n = zeroRows d from List.take_of_length_le (by rw [zeroRows_len]; have := hl1.out; omega))
        rw [hzl.out] at hto
        have hO := StatsO.of (d := ⟨List.replicate m 0, zeroRows d⟩) HTot.out hbag hto hbel (by omega) (by omega) (by omega) (by omega) (fun l hl => by
          obtain ⟨a, -, rfl⟩ := List.mem_map.1 hl
          have := zeroRow_len (c := d.classes.length) (a := a) (by rw [← hr1.out]; exact hm3)
          omega)
        have hfin := hide (show statsNewD d = ⟨List.replicate m 0, zeroRows d⟩ by rw [statsNewD_yes H1.out, ← hr1.out])
        have HO := hide hO
        have hY3 := hY2.keep hbel
        have hY2l := hY2.lt
        have hr0 := (hbel.frozen (p := ⟨w.heap.size + 1, 0, none⟩) (by show w.heap.size + 1 < _; omega)).trans HF2.out.1
        have hr1' := (hbel.frozen (p := ⟨w.heap.size + 1, 1, none⟩) (by show w.heap.size + 1 < _; omega)).trans HF2.out.2
        have hB3 := hide (bthen hB hbel)
        clear hO hbag hto hB hbel hY2 hX2
        obtain ⟨k0, k1, k2⟩ := id hY3
        obtain ⟨j0, j1, j2⟩ := id hbx
        go_wp2
        have hW2 : Only (fun j => w.heap.size + 1 = j) wr ((wr.setCell ⟨w.heap.size + 1, 0, none⟩ (.slice (some ⟨w1.heap.size, 0, none⟩) m m)).setCell ⟨w.heap.size + 1, 1, none⟩ (.slice A' n c')) :=
          ((Only.refl _ wr).setCell (p := ⟨w.heap.size + 1, 0, none⟩) rfl _).setCell (p := ⟨w.heap.size + 1, 1, none⟩) rfl _
        exact bodyPost_ret (v := .agg #[.slice (some ⟨w1.heap.size, 0, none⟩) m m, .slice A' n c']) (by simp [results, Try.results21, go_sem, k0, k1]) rfl
          ⟨_, _, rfl, by rw [hfin.out]; exact ((HO.out.only hW2 (fun j hj => .inl (by omega))).mono (by omega)).up (by simp), (hB3.out.setCell (by simp) _).setCell (by simp) _⟩
end Go.Proofs.Ytjdncobdecdhmaa
