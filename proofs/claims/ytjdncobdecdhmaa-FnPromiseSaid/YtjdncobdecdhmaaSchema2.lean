/-
  Schemas: size, comparison.
-/
import Derived.Test.YtjdncobdecdhmaaSchema
import Derived.Test.YtjdncobdecdhmaaEx2
namespace Go.Proofs.Ytjdncobdecdhmaa
open Go.RowKit
set_option maxRecDepth 100000

set_option maxHeartbeats 400000 in
theorem szAttrS_any (A : Option Addr) (n c : Nat) (l : List AttrD) (left : Int) (w : World) (hl : Attrs w A n l) (hn : n ≤ 9223372036854775807) (h0 : 0 ≤ left) (h1 : left ≤ 1048576) :
    Calls Try.prog 48 #[.slice A n c, .int .i64 left] w (SzPost left (wAttrs l) w) := by
  have HL := hide hl
  clear hl
  by_cases h : left < n
  · go_enter Try.func48, Try.ntmps48
    go_wp2
    go_ret
    exact ⟨-1, rfl, .inl rfl, Below.refl _ _⟩
  · go_enter Try.func48, Try.ntmps48
    go_wp2
    go_loopw [1, 5] (fun v i wr => ∃ (k : Nat) (r : Int), k ≤ n ∧ i = .int .i64 k ∧ v = .int .i64 r ∧ 0 ≤ r ∧ r ≤ left ∧ Hid (r + n + ((l.take k).map wAttr).sum = left) ∧ Below w.heap.size w wr) (fun _ i _ => n - (intOf i).toNat)
    case atStart => exact ⟨0, _, Nat.zero_le _, rfl, rfl, by omega, by omega, show _ = _ by simp, Below.refl _ _⟩
    case round =>
      obtain ⟨k, r, hk, rfl, rfl, hr0, hr1, hsum, hbel⟩ := hrel
      by_cases hlt : k < n
      · obtain ⟨ad, A1, n1, c1, A2, n2, c2, rfl, hbk, g0, g1, g2, hI⟩ := (HL.out).at_ hlt
        have e0 := (hbel.cell (p := ad.add (k * 3)) (by rw [block_of_add]; exact hbk)).trans g0
        have e1 := (hbel.cell (p := ⟨(ad.add (k * 3)).block, (ad.add (k * 3)).off + 1, none⟩) (by show (ad.add (k * 3)).block < _; rw [block_of_add]; exact hbk)).trans g1
        have e2 := (hbel.cell (p := ⟨(ad.add (k * 3)).block, (ad.add (k * 3)).off + 2, none⟩) (by show (ad.add (k * 3)).block < _; rw [block_of_add]; exact hbk)).trans g2
        have HI := hide (hI.keep hbel)
        have hkl : k < l.length := by have := (HL.out).1; omega
        have hst := hide (sum_take (f := wAttr) hkl default)
        clear hkl hI g0 g1 g2
        go_wp2_with (fail)
        refine (szAttr_any A1 n1 c1 A2 n2 c2 (l[k]?.getD default) _ _ HI.out (by omega) (by omega)).mono ?_
        rintro e w2 ⟨r2, rfl, hr, hb2⟩
        have hbel2 := bthen hbel hb2
        clear hb2 hbel e0 e1 e2
        rcases hr with rfl | ⟨hr2, hr3⟩
        · go_wp2
          go_ret
          exact ⟨-1, rfl, .inl rfl, hbel2⟩
        · have HR := hide (show r2 + wAttr (l[k]?.getD default) = r from hr3)
          have hr4 : r2 ≤ left := by omega
          clear hr3
          go_wp2
          go_roundw
          case rel => exact ⟨k + 1, r2, by omega, by go_num, rfl, by omega, by omega, show _ = _ by rw [hst.out]; have := hsum.out; have := HR.out; omega, hbel2⟩
          case measure => simp only [intOf]; omega
      · go_wp2
        go_ret
        refine ⟨r, rfl, .inr ⟨hr0, ?_⟩, hbel⟩
        have h2 := hsum.out
        rw [List.take_of_length_le (by have := (HL.out).1; omega)] at h2
        have := (HL.out).1
        unfold wAttrs
        omega

set_option maxHeartbeats 1000000 in
theorem szSchema_any (x0 x1 : Value) (d : SchemaD) (left : Int) (w : World) (h : SchemaI w x0 x1 d) (h0 : 0 ≤ left) (h1 : left ≤ 1048576) :
    Calls Try.prog 18 #[.agg #[x0, x1], .int .i64 left] w (SzPost left (wSchema d) w) := by
  obtain ⟨A, n, c, B, m, k, rfl, rfl, hl, hn, hr, hs, hm, hmk⟩ := h
  unfold maxLen at hn hm
  have hbox : Below w.heap.size w (w.alloc (.cells #[.slice A n c, .slice B m k] 35)) := (Below.refl _ _).alloc (Nat.le_refl _) _
  have HL := hide (hl.keep hbox)
  have HR := hide (hr.keep hbox)
  have HS := hide hs
  have hX := Box2.new w (.slice A n c) (.slice B m k) 35
  clear hl hr hs
  go_enter Try.func18, Try.ntmps18
  go_wp2_with (fail)
  refine (szAttrS_any A n c d.attrs _ _ HL.out (by omega) (by omega) (by omega)).mono ?_
  rintro e w1 ⟨r, rfl, hr, hb1⟩
  have hB1 := bthen hbox hb1
  obtain ⟨k0, k1, k2⟩ := hX.keep hb1
  replace HR := hide (HR.out.keep hb1)
  clear hb1
  rcases hr with rfl | ⟨hr0, hr1⟩
  · go_wp2
    go_ret
    exact ⟨-1, rfl, .inl rfl, hB1⟩
  · have H1 := hide hr1
    have hr2 : r ≤ left := by omega
    clear hr1
    go_wp2_with (fail)
    refine (szStringS_any B m k d.classes _ _ HR.out (fun s h => by have := HS.out s h; unfold maxLen at this; omega) (by omega) (by omega) (by omega)).mono ?_
    rintro e w2 ⟨r2, rfl, hr, hb2⟩
    have hB2 := bthen hB1 hb2
    clear hb2
    rcases hr with rfl | ⟨hr3, hr4⟩
    · go_wp2
      go_ret
      exact ⟨-1, rfl, .inl rfl, hB2⟩
    · have H2 := hide hr4
      clear hr4
      go_wp2
      go_ret
      refine ⟨r2, rfl, .inr ⟨hr3, ?_⟩, hB2⟩
      have h1 := H1.out
      have h2 := H2.out
      unfold wSchema
      omega

/-- What a region holds: two elements of three cells. -/
def HeldE (w : World) (a b : Addr) (x0 x1 x2 y0 y1 y2 : Value) (W : World) : Prop :=
  W.cell? a = some x0 ∧ W.cell? ⟨a.block, a.off + 1, none⟩ = some x1 ∧ W.cell? ⟨a.block, a.off + 2, none⟩ = some x2 ∧ W.cell? b = some y0 ∧ W.cell? ⟨b.block, b.off + 1, none⟩ = some y1 ∧ W.cell? ⟨b.block, b.off + 2, none⟩ = some y2 ∧ Below w.heap.size w W
theorem HeldE.keep {w W W1 : World} {a b : Addr} {x0 x1 x2 y0 y1 y2 : Value} (ha : a.block < w.heap.size) (hb : b.block < w.heap.size) (hW : Below W.heap.size W W1) (h : HeldE w a b x0 x1 x2 y0 y1 y2 W) : HeldE w a b x0 x1 x2 y0 y1 y2 W1 := by
  obtain ⟨h0, h1, h2, h3, h4, h5, h6⟩ := h
  have := h6.size
  exact ⟨(hW.cell (p := a) (by omega)).trans h0, (hW.cell (p := ⟨a.block, a.off + 1, none⟩) (by show a.block < _; omega)).trans h1, (hW.cell (p := ⟨a.block, a.off + 2, none⟩) (by show a.block < _; omega)).trans h2,
    (hW.cell (p := b) (by omega)).trans h3, (hW.cell (p := ⟨b.block, b.off + 1, none⟩) (by show b.block < _; omega)).trans h4, (hW.cell (p := ⟨b.block, b.off + 2, none⟩) (by show b.block < _; omega)).trans h5, bthen h6 hW⟩
theorem HeldE.below {w W : World} {a b : Addr} {x0 x1 x2 y0 y1 y2 : Value} (h : HeldE w a b x0 x1 x2 y0 y1 y2 W) : Below w.heap.size w W := h.2.2.2.2.2.2
theorem HeldE.drew {w W : World} {a b : Addr} {x0 x1 x2 y0 y1 y2 : Value} (ha : a.block < w.heap.size) (hb : b.block < w.heap.size) (h : HeldE w a b x0 x1 x2 y0 y1 y2 W) : HeldE w a b x0 x1 x2 y0 y1 y2 W.drew :=
  h.keep ha hb (Below.refl _ _).drew

set_option maxHeartbeats 2000000 in
theorem eqAttrS_any (A B : Option Addr) (n m c d : Nat) (l : List AttrD) (w : World) (hl : AttrsM w A n l) (hr : AttrsM w B m l) (hn : n ≤ 2097152) :
    Calls Try.prog 58 #[.slice A n c, .slice B m d] w fun e w' => e = .returned (.bool true) ∧ Below w.heap.size w w' := by
  obtain rfl : m = n := by rw [hl.1, hr.1]
  have HL := hide hl
  have HR := hide hr
  clear hl hr
  go_enter Try.func58, Try.ntmps58
  go_wp2
  go_loopw [5] (fun i wr => ∃ k : Nat, k ≤ m ∧ i = .int .i64 k ∧ Below w.heap.size w wr) (fun i _ => m - (intOf i).toNat)
  case atStart => exact ⟨0, Nat.zero_le _, rfl, Below.refl _ _⟩
  case round =>
    obtain ⟨k, hk, rfl, hbel⟩ := hrel
    by_cases hlt : k < m
    · obtain ⟨a1, A1, n1, c1, A2, n2, c2, rfl, hb1, g0, g1, g2, hI1⟩ := (HL.out.keep hbel).at_ hlt
      obtain ⟨a2, B1, m1, d1, B2, m2, d2, rfl, hb2, j0, j1, j2, hI2⟩ := (HR.out.keep hbel).at_ hlt
      have H1 := hide hI1
      have H2 := hide hI2
      have P1 := hide (show (a1.add (k * 3)).block < wr.heap.size by rw [block_of_add]; exact hb1)
      have P2 := hide (show (a2.add (k * 3)).block < wr.heap.size by rw [block_of_add]; exact hb2)
      have hi0 : (0 : Int) ≤ k := by omega
      have hi1 : (k : Int) < m := by omega
      have HS : HeldE wr (a1.add (k * 3)) (a2.add (k * 3)) (.string (l[k]?.getD default).name) (.slice A1 n1 c1) (.slice A2 n2 c2) (.string (l[k]?.getD default).name) (.slice B1 m1 d1) (.slice B2 m2 d2) wr := ⟨g0, g1, g2, j0, j1, j2, Below.refl _ _⟩
      clear hI1 hI2 hb1 hb2 g0 g1 g2 j0 j1 j2
      go_wp2
      unfold HeldE at HS
      go_region_held3 (fun W => W.cell? (a1.add (k * 3)) = some (.string (l[k]?.getD default).name) ∧ W.cell? ⟨(a1.add (k * 3)).block, (a1.add (k * 3)).off + 1, none⟩ = some (.slice A1 n1 c1) ∧ W.cell? ⟨(a1.add (k * 3)).block, (a1.add (k * 3)).off + 2, none⟩ = some (.slice A2 n2 c2) ∧ W.cell? (a2.add (k * 3)) = some (.string (l[k]?.getD default).name) ∧ W.cell? ⟨(a2.add (k * 3)).block, (a2.add (k * 3)).off + 1, none⟩ = some (.slice B1 m1 d1) ∧ W.cell? ⟨(a2.add (k * 3)).block, (a2.add (k * 3)).off + 2, none⟩ = some (.slice B2 m2 d2) ∧ Below wr.heap.size wr W) (first | assumption | exact HeldE.keep P1.out P2.out (by assumption) (by assumption) | exact HeldE.drew P1.out P2.out (by assumption)) ((go_at_call 86; refine (eqAttr_any _ _ _ _ _ _ _ _ _ _ _ _ (l[k]?.getD default) _ (H1.out.keep (HeldE.below (by assumption))) (H2.out.keep (HeldE.below (by assumption)))).mono ?_; rintro e w7 ⟨rfl, hb7⟩))
      have hH : HeldE wr (a1.add (k * 3)) (a2.add (k * 3)) (.string (l[k]?.getD default).name) (.slice A1 n1 c1) (.slice A2 n2 c2) (.string (l[k]?.getD default).name) (.slice B1 m1 d1) (.slice B2 m2 d2) w7 := by assumption
      have hbel2 := bthen hbel hH.below
      clear hH HS
      go_wp2
      go_roundw
      case rel => exact ⟨k + 1, by omega, by go_num, hbel2⟩
      case measure => simp [intOf]; omega
    · go_wp2
      go_ret
      exact ⟨rfl, hbel⟩
end Go.Proofs.Ytjdncobdecdhmaa
