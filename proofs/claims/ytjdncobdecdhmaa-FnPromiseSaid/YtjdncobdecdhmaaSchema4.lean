/-
  Schemas: a copy; comparison with itself.
-/
import Derived.Test.YtjdncobdecdhmaaSchema3
namespace Go.Proofs.Ytjdncobdecdhmaa
open Go.RowKit
set_option maxRecDepth 100000

theorem str_beq {a b : ByteArray} (h : a = b) : (a.toList == b.toList) = true := by rw [h]; exact beq_self_eq_true _
theorem str_beq_no {a b : ByteArray} (h : ¬ a = b) : (a.toList == b.toList) = false := by rw [beq_eq_false_iff_ne]; intro e; exact h (toList_inj e)
theorem str_bne {a b : ByteArray} (h : a = b) : (a.toList != b.toList) = false := by rw [h]; simp
theorem str_bne_no {a b : ByteArray} (h : ¬ a = b) : (a.toList != b.toList) = true := by rw [bne_iff_ne]; intro e; exact h (toList_inj e)

set_option maxHeartbeats 1000000 in
theorem toAttrS_any (A : Option Addr) (n c : Nat) (l : List AttrD) (w : World) (hl : AttrsM w A n l) (hn : n ≤ 1048576) :
    Calls Try.prog 52 #[.slice A n c] w fun e w' => ∃ D m r, e = .returned (.slice D n m) ∧ Bag w.heap.size (1 + 2 * n) w' r ∧ AttrsTo r D n m l n ∧ Below w.heap.size w w' := by
  have HL := hide hl
  have hlen : l.length ≤ n := by rw [hl.1]; exact Nat.le_refl _
  have hlen' : n ≤ l.length := by rw [hl.1]; exact Nat.le_refl _
  clear hl
  obtain ⟨i0, hi0, hz0, hz1, hz2⟩ := info_parts infoA
  go_enter Try.func52, Try.ntmps52
  go_wp2_with (at_make; refine wpList_make_full _ rfl _ _ 41 rfl w.heap.size 73 i0 (.agg #[.string ⟨#[]⟩, .slice none 0 0, .slice none 0 0]) 3 Try.underlying41 hi0 hz0 hz1 _ _ _ _ n rfl rfl rfl rfl (by rw [hz2]; omega) (by unfold maxLen; omega) (Nat.le_refl _) ?_; intro w1 hown1 hg1)
  have hb1 : Below w.heap.size w w1 := (Below.refl _ _).grown hg1 (Nat.le_refl _) (by simp)
  have hbag : ∃ r, Bag w.heap.size (1 + 2 * 0) w1 r ∧ AttrsTo r (some ⟨w.heap.size, 0, none⟩) n n l 0 :=
    ⟨fun _ => ⟨73, 3, _, n, _⟩, Bag.one hown1, by omega, ⟨rfl, rfl, rfl, rfl⟩, fun i hi => by omega⟩
  have HBag := hide hbag
  clear hown1 hg1 hi0 hz0 hz1 hz2 hbag
  go_loopw [4] (fun i wr => ∃ k : Nat, k ≤ n ∧ i = .int .i64 k ∧ (∃ r, Bag w.heap.size (1 + 2 * k) wr r ∧ AttrsTo r (some ⟨w.heap.size, 0, none⟩) n n l k) ∧ Below w.heap.size w wr) (fun i _ => n - (intOf i).toNat)
  case atStart => exact ⟨0, Nat.zero_le _, rfl, HBag.out, hb1⟩
  case round =>
    clear hb1 HBag
    obtain ⟨k, hk, rfl, ⟨r, hbag, hto⟩, hbel⟩ := hrel
    by_cases hlt : k < n
    · obtain ⟨ad, A1, n1, c1, A2, n2, c2, rfl, hbk, g0, g1, g2, hI⟩ := (HL.out.keep hbel).at_ hlt
      have hI1 := hide hI
      have hO := hide (hto.outer hbag (by omega))
      have HB := hide hbag
      have HT := hide hto
      clear hI hbag hto
      go_wp2_with (fail)
      refine (toAttr_own A1 n1 c1 A2 n2 c2 (l[k]?.getD default) _ hI1.out).mono ?_
      rintro e w2 ⟨D1, m1, D2, m2, rfl, ho, hb2⟩
      have hst := hide (HT.out.step HB.out hlt ho hb2 hbel.size)
      have hO2 := own_below hO.out hb2
      have hu : ∀ j, j < 3 → ∃ u, w2.cell? ⟨w.heap.size, k * 3 + j, none⟩ = some u := by
        intro j hj
        rw [hO2.cellAt (k * 3 + j) (by omega)]
        exact ⟨_, List.getElem?_eq_getElem (by have := hO2.1; omega)⟩
      obtain ⟨u0, hu0⟩ : ∃ u, w2.cell? ⟨w.heap.size, k * 3, none⟩ = some u := hu 0 (by omega)
      obtain ⟨u1, hu1⟩ := hu 1 (by omega)
      obtain ⟨u2, hu2⟩ := hu 2 (by omega)
      have hf0 := hO2.frozenAt (k * 3)
      have hf1 := hO2.frozenAt (k * 3 + 1)
      have hf2 := hO2.frozenAt (k * 3 + 2)
      have hbel2 := hide ((((bthen hbel hb2).setCell (p := ⟨w.heap.size, k * 3, none⟩) (Nat.le_refl _) (.string (l[k]?.getD default).name)).setCell (p := ⟨w.heap.size, k * 3 + 1, none⟩) (Nat.le_refl _) (.slice D1 n1 m1)).setCell (p := ⟨w.heap.size, k * 3 + 2, none⟩) (Nat.le_refl _) (.slice D2 n2 m2))
      clear ho hO2 hb2 hbel hu g0 g1 g2
      go_wp2
      go_roundw
      case rel => exact ⟨k + 1, by omega, by go_num, hst.out, hbel2.out⟩
      case measure => simp [intOf]; omega
    · obtain rfl : k = n := by omega
      go_wp2
      go_ret
      exact ⟨_, _, r, rfl, hbag, hto, hbel⟩

/-- A small schema that owns all that it holds, in blocks from B on. -/
def SchemaO (B H : Nat) (w : World) (x0 x1 : Value) (d : SchemaD) : Prop :=
  ∃ A n c D m k r, x0 = .slice A n c ∧ x1 = .slice D m k ∧ Bag B (2 + 2 * n) w r ∧ r (1 + 2 * n) = strRow D m k d.classes ∧ AttrsTo r A n c d.attrs n ∧ n ≤ 1048576 ∧ m ≤ 1048576 ∧ (∀ a ∈ d.attrs, attrSmall a) ∧ (∀ s ∈ d.classes, s.size ≤ 1048576) ∧ ∀ k, has (2 + 2 * n) r k → k < H
theorem SchemaO.m {B H : Nat} {w : World} {x0 x1 : Value} {d : SchemaD} (h : SchemaO B H w x0 x1 d) : SchemaM w x0 x1 d := by
  obtain ⟨A, n, c, D, m, k, r, rfl, rfl, hb, h0, hr, hn, hm, hs, hs2, -⟩ := h
  have ho : w.ownsRow B 9 1 (.slice D m k) m (d.classes.map Value.string) := by
    have := hb.own (1 + 2 * n) (by omega)
    rw [h0] at this
    exact this
  exact ⟨A, n, c, D, m, k, rfl, rfl, hr.m hb (by omega) hs, hn, strs_of ho, hs2, hm, own_cap ho⟩
theorem SchemaO.only {S : Nat → Prop} {B H : Nat} {w w' : World} {x0 x1 : Value} {d : SchemaD} (h : SchemaO B H w x0 x1 d) (ho : Only S w w') (hs : ∀ k, S k → k < B ∨ H ≤ k) : SchemaO B H w' x0 x1 d := by
  obtain ⟨A, n, c, D, m, k, r, rfl, rfl, hb, h0, hr, hn, hm, hz, hz2, hH⟩ := h
  exact ⟨A, n, c, D, m, k, r, rfl, rfl, hb.only ho fun j hj hS => by have := (hb.lt hj).1; have := hH j hj; have := hs j hS; omega, h0, hr, hn, hm, hz, hz2, hH⟩
theorem SchemaO.below {B H : Nat} {w w' : World} {x0 x1 : Value} {d : SchemaD} (h : SchemaO B H w x0 x1 d) (hb : Below w.heap.size w w') : SchemaO B H w' x0 x1 d :=
  h.only (Only.of_below (S := fun _ => False) hb) fun _ h => h.elim
theorem SchemaO.mono {B B' H : Nat} {w : World} {x0 x1 : Value} {d : SchemaD} (h : SchemaO B H w x0 x1 d) (hB : B' ≤ B) : SchemaO B' H w x0 x1 d := by
  obtain ⟨A, n, c, D, m, k, r, rfl, rfl, hb, h⟩ := h
  exact ⟨A, n, c, D, m, k, r, rfl, rfl, hb.mono hB, h⟩
theorem SchemaO.up {B H H' : Nat} {w : World} {x0 x1 : Value} {d : SchemaD} (h : SchemaO B H w x0 x1 d) (hH : H ≤ H') : SchemaO B H' w x0 x1 d := by
  obtain ⟨A, n, c, D, m, k, r, rfl, rfl, hb, h0, hr, hn, hm, hz, hz2, h⟩ := h
  exact ⟨A, n, c, D, m, k, r, rfl, rfl, hb, h0, hr, hn, hm, hz, hz2, fun k hk => Nat.lt_of_lt_of_le (h k hk) hH⟩
theorem AttrsTo.congr {r s : Nat → Row} {A : Option Addr} {n c k : Nat} {ls : List AttrD} (h : AttrsTo r A n c ls k) (e : ∀ i, i < 1 + 2 * k → s i = r i) : AttrsTo s A n c ls k := by
  refine ⟨h.len, by rw [e 0 (by omega)]; exact h.head, fun i hi => ?_⟩
  rw [e 0 (by omega), e (1 + 2 * i) (by omega), e (2 + 2 * i) (by omega)]
  exact h.rows i hi
theorem SchemaO.of {B B' : Nat} {w w' : World} {A D : Option Addr} {n c m k : Nat} {r : Nat → Row} {d : SchemaD} (h2 : Bag B (1 + 2 * n) w r) (h3 : AttrsTo r A n c d.attrs n) (h1 : w'.ownsRow B' 9 1 (.slice D m k) m (d.classes.map Value.string))
    (hb : Below w.heap.size w w') (hB : B ≤ B') (hw : w.heap.size ≤ B') (hn : n ≤ 1048576) (hm : m ≤ 1048576) (hs : ∀ a ∈ d.attrs, attrSmall a) (hs2 : ∀ s ∈ d.classes, s.size ≤ 1048576) : SchemaO B w'.heap.size w' (.slice A n c) (.slice D m k) d := by
  have hbag : Bag B (2 + 2 * n) w' (rcat (1 + 2 * n) r (fun _ => strRow D m k d.classes)) := by
    rw [show 2 + 2 * n = (1 + 2 * n) + 1 by omega]
    exact h2.cat (Bag.one (s := strRow D m k d.classes) h1) hB hw hb
  exact ⟨A, n, c, D, m, k, rcat (1 + 2 * n) r (fun _ => strRow D m k d.classes), rfl, rfl, hbag, by simp [rcat], h3.congr fun i hi => by unfold rcat; rw [if_pos hi], hn, hm, hs, hs2, fun k hk => (hbag.lt hk).2⟩
theorem attrs_small {w : World} {A : Option Addr} {n : Nat} {l : List AttrD} (h : AttrsM w A n l) : ∀ x ∈ l, attrSmall x := by
  intro x hx
  obtain ⟨i, hi, rfl⟩ := List.mem_iff_getElem.1 hx
  obtain ⟨ad, e, hlt, hc⟩ := h.2 (by have := h.1; omega)
  obtain ⟨cs, h1, ⟨A1, n1, c1, A2, n2, c2, _, h4⟩, _⟩ := hc i hi
  have e1 := h4.cuts.1
  have e2 := h4.vals.1
  have := h4.b1
  have := h4.b2
  exact ⟨h4.name, h4.sizes, by omega, by omega⟩

set_option maxHeartbeats 1000000 in
theorem toSchema_own (x0 x1 : Value) (d : SchemaD) (w : World) (h : SchemaM w x0 x1 d) :
    Calls Try.prog 20 #[.agg #[x0, x1]] w fun e w' => ∃ y0 y1, e = .returned (.agg #[y0, y1]) ∧ SchemaO w.heap.size w'.heap.size w' y0 y1 d ∧ Below w.heap.size w w' := by
  obtain ⟨A, n, c, D, m, k, rfl, rfl, hl, hn, hr, hs, hm, hmk⟩ := h
  have HL := hide hl
  have HR := hide hr
  have HS := hide hs
  have hlen := hide hr.1
  clear hl hr hs
  go_enter Try.func20, Try.ntmps20
  go_wp2_with (fail)
  have hB0 : Below w.heap.size w (((w.alloc (.cells #[.slice A n c, .slice D m k] 35)).alloc (.cells #[.slice none 0 0, .slice none 0 0] 43)).alloc (.cells #[.slice none 0 0, .slice none 0 0] 43)) :=
    (((Below.refl _ _).alloc (Nat.le_refl _) _).alloc (by simp) _).alloc (by simp; omega) _
  refine (toAttrS_any A n c d.attrs _ (HL.out.keep hB0) (by omega)).mono ?_
  rintro e w1 ⟨D1, m1, r, rfl, hbag, hto, hb1⟩
  have hz1 : w.heap.size + 2 < w1.heap.size := by have := hb1.size; simp at this; omega
  have hz1' : w.heap.size + 1 < w1.heap.size := by omega
  have hz1'' : w.heap.size < w1.heap.size := by omega
  have hB1 := bthen hB0 hb1
  obtain ⟨hc1, hf1⟩ := bcell hb1
  have hbag' : Bag (w.heap.size + 3) (1 + 2 * n) w1 r := by simpa using hbag
  have HB := hide hbag'
  have HT := hide hto
  clear hb1 hbag hbag' hto
  go_wp2_with (fail)
  refine (toStringS_any D m k d.classes _ (HR.out.keep (hB1.setCell (by simp; omega) _)) (by omega)).mono ?_
  rintro e w2 ⟨D2, m2, rfl, ho2, hb2⟩
  have hz2 := hb2.size
  have hB2 := bthen (hB1.setCell (p := ⟨w.heap.size + 2, 0, none⟩) (by simp) _) hb2
  obtain ⟨hc2, hf2⟩ := bcell hb2
  have ho2' : w2.ownsRow w1.heap.size 9 1 (.slice D2 m m2) m (d.classes.map Value.string) := by
    have := ho2
    unfold OwnS at this
    rw [← hlen.out] at this
    simpa using this
  have hS0 : Only (fun j => j < w.heap.size + 3) w1 (w1.setCell ⟨w.heap.size + 2, 0, none⟩ (.slice D1 n m1)) := (Only.refl _ _).setCell (show w.heap.size + 2 < w.heap.size + 3 by omega) _
  have HSO := hide (SchemaO.of (d := d) (HB.out.only hS0 (fun j hj h => by have := HB.out.lt hj; omega)) HT.out ho2' (by simpa using hb2) (by omega) (by simp) hn hm (attrs_small HL.out) HS.out)
  clear ho2 ho2' hB0 hS0
  have hR0 : w2.cell? ⟨w.heap.size + 1, 0, none⟩ = some (.slice none 0 0) := by go_simp
  have hR1 : w2.cell? ⟨w.heap.size + 1, 1, none⟩ = some (.slice none 0 0) := by go_simp
  go_wp2
  have hW2 : Only (fun j => j < w.heap.size + 3) w2 (((w2.setCell ⟨w.heap.size + 1 + 1, 1, none⟩ (.slice D2 m m2)).setCell ⟨w.heap.size + 1, 0, none⟩ (.slice D1 n m1)).setCell ⟨w.heap.size + 1, 1, none⟩ (.slice D2 m m2)) :=
    (((Only.refl _ w2).setCell (show w.heap.size + 1 + 1 < w.heap.size + 3 by omega) _).setCell (show w.heap.size + 1 < w.heap.size + 3 by omega) _).setCell (show w.heap.size + 1 < w.heap.size + 3 by omega) _
  exact bodyPost_ret (v := .agg #[.slice D1 n m1, .slice D2 m m2]) (by simp [results, Try.results20, go_sem, hR0, hR1]) rfl
    ⟨_, _, rfl, ((HSO.out.only hW2 (fun j hj => .inl hj)).mono (by omega)).up (by simp),
      ((hB2.setCell (by simp; omega) _).setCell (by simp) _).setCell (by simp) _⟩
theorem toSchema_any (x0 x1 : Value) (d : SchemaD) (w : World) (h : SchemaM w x0 x1 d) :
    Calls Try.prog 20 #[.agg #[x0, x1]] w fun e w' => ∃ y0 y1, e = .returned (.agg #[y0, y1]) ∧ SchemaM w' y0 y1 d ∧ Below w.heap.size w w' :=
  (toSchema_own x0 x1 d w h).mono fun _ _ ⟨y0, y1, h1, h2, h3⟩ => ⟨y0, y1, h1, h2.m, h3⟩
theorem SchemaM.one {w : World} {x0 x1 : Value} {d : SchemaD} (h : SchemaM w x0 x1 d) : x0.oneCell' = true ∧ x1.oneCell' = true := by
  obtain ⟨A, n, c, B, m, k, rfl, rfl, _⟩ := h
  exact ⟨rfl, rfl⟩

set_option maxHeartbeats 1000000 in
theorem eqSchema_any (x0 x1 y0 y1 : Value) (d : SchemaD) (w : World) (h : SchemaM w x0 x1 d) (h' : SchemaM w y0 y1 d) :
    Calls Try.prog 23 #[.agg #[x0, x1], .agg #[y0, y1]] w fun e w' => e = .returned (.bool true) ∧ Below w.heap.size w w' := by
  obtain ⟨A, n, c, D, m, k, rfl, rfl, hl, hn, hr, -, hm, -⟩ := h
  obtain ⟨A', n', c', D', m', k', rfl, rfl, hl', hn', hr', -, hm', -⟩ := h'
  have hbox : Below w.heap.size w ((w.alloc (.cells #[.slice A n c, .slice D m k] 43)).alloc (.cells #[.slice A' n' c', .slice D' m' k'] 43)) := ((Below.refl _ _).alloc (Nat.le_refl _) _).alloc (by simp) _
  have hX := (Box2.new w (.slice A n c) (.slice D m k) 43).keep (Below.alloc (Below.refl _ _) (Nat.le_refl _) (.cells #[.slice A' n' c', .slice D' m' k'] 43))
  have hY := Box2.new (w.alloc (.cells #[.slice A n c, .slice D m k] 43)) (.slice A' n' c') (.slice D' m' k') 43
  have hz : (w.alloc (.cells #[.slice A n c, .slice D m k] 43)).heap.size = w.heap.size + 1 := by simp
  rw [hz] at hY
  clear hz
  have HL := hide (hl.keep hbox)
  have HL' := hide (hl'.keep hbox)
  have HR := hide (hr.keep hbox)
  have HR' := hide (hr'.keep hbox)
  clear hl hr hl' hr'
  go_enter Try.func23, Try.ntmps23
  go_wp2_with (fail)
  refine (eqAttrS_any _ _ _ _ _ _ d.attrs _ HL.out HL'.out (by omega)).mono ?_
  rintro e w1 ⟨rfl, hb1⟩
  have hB1 := bthen hbox hb1
  obtain ⟨k0, k1, k2⟩ := hX.keep hb1
  obtain ⟨j0, j1, j2⟩ := hY.keep hb1
  replace HR := hide (HR.out.keep hb1)
  replace HR' := hide (HR'.out.keep hb1)
  clear hb1 hX hY
  go_wp2_with (fail)
  refine (eqStringS_any _ _ _ _ _ _ d.classes d.classes _ HR.out HR'.out (by omega) (by omega)).mono ?_
  rintro e w1 ⟨rfl, q', rfl⟩
  simp only [decide_true]
  go_wp2
  go_ret
  exact ⟨rfl, below_drewN hB1 _⟩
end Go.Proofs.Ytjdncobdecdhmaa
