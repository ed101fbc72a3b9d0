/-
  Attributes in the making: owned cuts, owned values, apart. No program is walked here.
-/
import Derived.Test.YtjdncobdecdhmaaSchP
namespace Go.Proofs.Ytjdncobdecdhmaa
open Go.RowKit
set_option maxRecDepth 100000

theorem grown_below {w w' : World} {row : Option Nat} (h : Below w.heap.size w w') : w.grownBy w' row := ⟨h.os, h.tape, h.output, h.size, fun k hk _ => h.block k hk⟩
section
variable {B : Nat} {w w2 : World} {A1 A2 : Option Addr} {n1 c1 n2 c2 : Nat} {a : AttrD}
theorem attr_start (w : World) (B : Nat) (nm : ByteArray) : Bag B 2 w (attrRows none 0 0 none 0 0 ⟨nm, [], []⟩) := by
  refine ⟨fun i hi => ?_, fun i j hi hj hij => ?_⟩
  · rcases (show i = 0 ∨ i = 1 by omega) with rfl | rfl
    · exact World.ownsRow_nil _ _ _ _
    · exact World.ownsRow_nil _ _ _ _
  · rcases (show i = 0 ∨ i = 1 by omega) with rfl | rfl
    · exact .inl rfl
    · exact .inl rfl
theorem rput_cuts (s : Row) (t u : Row) : rput (rpair s t) 0 u = rpair u t := by
  funext j
  unfold rput rpair
  by_cases e : j = 0 <;> simp [e]
theorem attrRows_cong {r : Nat → Row} {N : Nat} {s : Nat → Row} (h : Bag B N w r) (e : ∀ i, i < N → s i = r i) : Bag B N w s := h.congr e
theorem attr_turn1 {A1' : Option Addr} {n1' c1' : Nat} {l : List Int} (h : Bag B 2 w (attrRows A1 n1 c1 A2 n2 c2 a)) (hv : w2.ownsRow B 3 1 (.slice A1' n1' c1') n1' (l.map (Value.int .i64)))
    (hg : w.grownBy w2 (Value.ownBlock (.slice A1 n1 c1))) (hnew : ∀ g, Value.ownBlock (.slice A1' n1' c1') = some g → Value.ownBlock (.slice A1 n1 c1) = some g ∨ w.heap.size ≤ g) (nm : ByteArray) :
    Bag B 2 w2 (attrRows A1' n1' c1' A2 n2 c2 ⟨nm, l, a.vals⟩) :=
  (h.turn (i := 0) (s := intRow A1' n1' c1' l) (by omega) hg hv hnew).congr fun i hi => by
    rcases (show i = 0 ∨ i = 1 by omega) with rfl | rfl
    · rw [rput_same]; rfl
    · rw [rput_other _ _ (by omega)]; rfl
theorem attr_turn2 {A2' : Option Addr} {n2' c2' : Nat} {l : List ByteArray} (h : Bag B 2 w (attrRows A1 n1 c1 A2 n2 c2 a)) (hv : w2.ownsRow B 9 1 (.slice A2' n2' c2') n2' (l.map Value.string))
    (hg : w.grownBy w2 (Value.ownBlock (.slice A2 n2 c2))) (hnew : ∀ g, Value.ownBlock (.slice A2' n2' c2') = some g → Value.ownBlock (.slice A2 n2 c2) = some g ∨ w.heap.size ≤ g) (nm : ByteArray) :
    Bag B 2 w2 (attrRows A1 n1 c1 A2' n2' c2' ⟨nm, a.cuts, l⟩) :=
  (h.turn (i := 1) (s := strRow A2' n2' c2' l) (by omega) hg hv hnew).congr fun i hi => by
    rcases (show i = 0 ∨ i = 1 by omega) with rfl | rfl
    · rw [rput_other _ _ (by omega)]; rfl
    · rw [rput_same]; rfl
/-- One cut more. -/
theorem attr_cut {v : Value} {x : Int} (h : Bag B 2 w (attrRows A1 n1 c1 A2 n2 c2 a)) (hv : w2.ownsRow B 3 1 v (n1 + 1) (a.cuts.map (Value.int .i64) ++ [.int .i64 x]))
    (hg : w.grownBy w2 (Value.ownBlock (.slice A1 n1 c1))) (hnew : ∀ g, v.ownBlock = some g → Value.ownBlock (.slice A1 n1 c1) = some g ∨ w.heap.size ≤ g) :
    ∃ A1' c1', v = .slice A1' (n1 + 1) c1' ∧ Bag B 2 w2 (attrRows A1' (n1 + 1) c1' A2 n2 c2 ⟨a.name, a.cuts ++ [x], a.vals⟩) := by
  obtain ⟨D, m, rfl⟩ := own_shape hv
  exact ⟨D, m, rfl, attr_turn1 h (by simpa using hv) hg hnew _⟩
/-- One value more. -/
theorem attr_val {v : Value} {x : ByteArray} (h : Bag B 2 w (attrRows A1 n1 c1 A2 n2 c2 a)) (hv : w2.ownsRow B 9 1 v (n2 + 1) (a.vals.map Value.string ++ [.string x]))
    (hg : w.grownBy w2 (Value.ownBlock (.slice A2 n2 c2))) (hnew : ∀ g, v.ownBlock = some g → Value.ownBlock (.slice A2 n2 c2) = some g ∨ w.heap.size ≤ g) :
    ∃ A2' c2', v = .slice A2' (n2 + 1) c2' ∧ Bag B 2 w2 (attrRows A1 n1 c1 A2' (n2 + 1) c2' ⟨a.name, a.cuts, a.vals ++ [x]⟩) := by
  obtain ⟨D, m, rfl⟩ := own_shape hv
  exact ⟨D, m, rfl, attr_turn2 h (by simpa using hv) hg hnew _⟩
/-- Cuts, values made anew. -/
theorem attr_cuts_set {B' : Nat} {A1' : Option Addr} {n1' c1' : Nat} {l : List Int} (h : Bag B 2 w (attrRows A1 n1 c1 A2 n2 c2 a)) (hb : Below w.heap.size w w2) (hB : B ≤ B') (hw : w.heap.size ≤ B')
    (hv : w2.ownsRow B' 3 1 (.slice A1' n1' c1') n1' (l.map (Value.int .i64))) (nm : ByteArray) : Bag B 2 w2 (attrRows A1' n1' c1' A2 n2 c2 ⟨nm, l, a.vals⟩) :=
  attr_turn1 h (((Bag.one (s := intRow A1' n1' c1' l) hv).mono hB).own 0 (by omega)) (grown_below hb) (fun g hg => .inr (Nat.le_trans hw (hv.lt g hg).1)) nm
theorem attr_vals_set {B' : Nat} {A2' : Option Addr} {n2' c2' : Nat} {l : List ByteArray} (h : Bag B 2 w (attrRows A1 n1 c1 A2 n2 c2 a)) (hb : Below w.heap.size w w2) (hB : B ≤ B') (hw : w.heap.size ≤ B')
    (hv : w2.ownsRow B' 9 1 (.slice A2' n2' c2') n2' (l.map Value.string)) (nm : ByteArray) : Bag B 2 w2 (attrRows A1 n1 c1 A2' n2' c2' ⟨nm, a.cuts, l⟩) :=
  attr_turn2 h (((Bag.one (s := strRow A2' n2' c2' l) hv).mono hB).own 0 (by omega)) (grown_below hb) (fun g hg => .inr (Nat.le_trans hw (hv.lt g hg).1)) nm
theorem attr_own1 (h : Bag B 2 w (attrRows A1 n1 c1 A2 n2 c2 a)) : w.ownsRow B 3 1 (.slice A1 n1 c1) n1 (a.cuts.map (Value.int .i64)) := h.own 0 (by omega)
theorem attr_own2 (h : Bag B 2 w (attrRows A1 n1 c1 A2 n2 c2 a)) : w.ownsRow B 9 1 (.slice A2 n2 c2) n2 (a.vals.map Value.string) := h.own 1 (by omega)
theorem attr_m (h : Bag B 2 w (attrRows A1 n1 c1 A2 n2 c2 a)) (hs : attrSmall a) : AttrM w A1 n1 c1 A2 n2 c2 a := by
  obtain ⟨q1, q2, q3, q4⟩ := hs
  have o1 := attr_own1 h
  have o2 := attr_own2 h
  have z1 := (ints_of o1).1
  have z2 := (strs_of o2).1
  exact ⟨ints_of o1, strs_of o2, q1, q2, by omega, by omega, own_cap o2⟩
end

/-- A struct of three cells in block b. -/
structure BoxA (w : World) (b : Nat) (x y z : Value) : Prop where
  c0 : w.cell? ⟨b, 0, none⟩ = some x
  c1 : w.cell? ⟨b, 1, none⟩ = some y
  c2 : w.cell? ⟨b, 2, none⟩ = some z
  f0 : w.frozen? ⟨b, 0, none⟩ = false
  f1 : w.frozen? ⟨b, 1, none⟩ = false
  f2 : w.frozen? ⟨b, 2, none⟩ = false
  lt : b < w.heap.size
theorem BoxA.new (w : World) (x y z : Value) (t : TypeId) : BoxA (w.alloc (.cells #[x, y, z] t)) w.heap.size x y z :=
  ⟨by go_simp, by go_simp, by go_simp, by go_simp, by go_simp, by go_simp, by simp⟩
section
variable {w w' : World} {b : Nat} {x y z : Value}
theorem BoxA.only {S : Nat → Prop} (h : BoxA w b x y z) (ho : Only S w w') (hS : ¬ S b) : BoxA w' b x y z := by
  have hk := ho.block b h.lt hS
  have e : ∀ o, w'.cell? ⟨b, o, none⟩ = w.cell? ⟨b, o, none⟩ := fun o => World.cell?_of_block (w := w) (a := ⟨b, o, none⟩) hk
  have f : ∀ o, w'.frozen? ⟨b, o, none⟩ = w.frozen? ⟨b, o, none⟩ := fun o => World.frozen?_of_block (w := w) (a := ⟨b, o, none⟩) hk
  exact ⟨(e 0).trans h.c0, (e 1).trans h.c1, (e 2).trans h.c2, (f 0).trans h.f0, (f 1).trans h.f1, (f 2).trans h.f2, Nat.lt_of_lt_of_le h.lt ho.size⟩
theorem BoxA.keep (h : BoxA w b x y z) (hb : Below w.heap.size w w') : BoxA w' b x y z := h.only (S := fun _ => False) (Only.of_below hb) (fun h => h)
theorem BoxA.low {B : Nat} (h : BoxA w b x y z) (hb : Below B w w') (hB : b < B) : BoxA w' b x y z :=
  h.only (S := fun j => B ≤ j) ⟨hb.os, hb.tape, hb.output, hb.size, fun k _ hk => hb.block k (by omega)⟩ (by omega)
theorem BoxA.set0 (h : BoxA w b x y z) (u : Value) : BoxA (w.setCell ⟨b, 0, none⟩ u) b u y z := by
  obtain ⟨h0, h1, h2, g0, g1, g2, hl⟩ := h
  exact ⟨by go_simp, by go_simp, by go_simp, by go_simp, by go_simp, by go_simp, by simpa using hl⟩
theorem BoxA.set1 (h : BoxA w b x y z) (u : Value) : BoxA (w.setCell ⟨b, 1, none⟩ u) b x u z := by
  obtain ⟨h0, h1, h2, g0, g1, g2, hl⟩ := h
  exact ⟨by go_simp, by go_simp, by go_simp, by go_simp, by go_simp, by go_simp, by simpa using hl⟩
theorem BoxA.set2 (h : BoxA w b x y z) (u : Value) : BoxA (w.setCell ⟨b, 2, none⟩ u) b x y u := by
  obtain ⟨h0, h1, h2, g0, g1, g2, hl⟩ := h
  exact ⟨by go_simp, by go_simp, by go_simp, by go_simp, by go_simp, by go_simp, by simpa using hl⟩
end
/-- A struct of two cells in block b, writable. -/
structure BoxW (w : World) (b : Nat) (x y : Value) : Prop where
  c0 : w.cell? ⟨b, 0, none⟩ = some x
  c1 : w.cell? ⟨b, 1, none⟩ = some y
  f0 : w.frozen? ⟨b, 0, none⟩ = false
  f1 : w.frozen? ⟨b, 1, none⟩ = false
  lt : b < w.heap.size
theorem BoxW.new (w : World) (x y : Value) (t : TypeId) : BoxW (w.alloc (.cells #[x, y] t)) w.heap.size x y :=
  ⟨by go_simp, by go_simp, by go_simp, by go_simp, by simp⟩
section
variable {w w' : World} {b : Nat} {x y : Value}
theorem BoxW.only {S : Nat → Prop} (h : BoxW w b x y) (ho : Only S w w') (hS : ¬ S b) : BoxW w' b x y := by
  have hk := ho.block b h.lt hS
  have e : ∀ o, w'.cell? ⟨b, o, none⟩ = w.cell? ⟨b, o, none⟩ := fun o => World.cell?_of_block (w := w) (a := ⟨b, o, none⟩) hk
  have f : ∀ o, w'.frozen? ⟨b, o, none⟩ = w.frozen? ⟨b, o, none⟩ := fun o => World.frozen?_of_block (w := w) (a := ⟨b, o, none⟩) hk
  exact ⟨(e 0).trans h.c0, (e 1).trans h.c1, (f 0).trans h.f0, (f 1).trans h.f1, Nat.lt_of_lt_of_le h.lt ho.size⟩
theorem BoxW.keep (h : BoxW w b x y) (hb : Below w.heap.size w w') : BoxW w' b x y := h.only (S := fun _ => False) (Only.of_below hb) (fun h => h)
theorem BoxW.low {B : Nat} (h : BoxW w b x y) (hb : Below B w w') (hB : b < B) : BoxW w' b x y :=
  h.only (S := fun j => B ≤ j) ⟨hb.os, hb.tape, hb.output, hb.size, fun k _ hk => hb.block k (by omega)⟩ (by omega)
theorem BoxW.set0 (h : BoxW w b x y) (u : Value) : BoxW (w.setCell ⟨b, 0, none⟩ u) b u y := by
  obtain ⟨h0, h1, g0, g1, hl⟩ := h
  exact ⟨by go_simp, by go_simp, by go_simp, by go_simp, by simpa using hl⟩
theorem BoxW.set1 (h : BoxW w b x y) (u : Value) : BoxW (w.setCell ⟨b, 1, none⟩ u) b x u := by
  obtain ⟨h0, h1, g0, g1, hl⟩ := h
  exact ⟨by go_simp, by go_simp, by go_simp, by go_simp, by simpa using hl⟩
end
end Go.Proofs.Ytjdncobdecdhmaa
