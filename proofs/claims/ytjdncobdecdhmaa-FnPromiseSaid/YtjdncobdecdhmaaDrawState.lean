/-
  What a walk that draws an attribute holds. No function is walked here.
-/
import Derived.Test.YtjdncobdecdhmaaDrawA
import Derived.Test.YtjdncobdecdhmaaAttrW
import Derived.Test.YtjdncobdecdhmaaApp
import Derived.Deep.RegionLaw
namespace Go.Proofs.Ytjdncobdecdhmaa
open Go.RowKit
set_option maxRecDepth 100000

theorem lit_cell (W : World) (l : List Value) (t : TypeId) (k : Nat) {v : Value} (h : l[k]? = some v) : (W.alloc (.cells l.toArray t)).cell? ((⟨W.heap.size, 0, none⟩ : Addr).add k) = some v := by
  have e : (⟨W.heap.size, 0, none⟩ : Addr).add k = ⟨W.heap.size, k, none⟩ := by unfold Addr.add; split <;> simp_all
  rw [e, cell_of_row _ W.heap.size k l.toArray t (0, 0) (heap_alloc_new W _)]
  simpa using h
theorem new_cells {W : World} {g : Nat} (h : W.heap.size = g) (us : List Value) (e : TypeId) : ∀ j v, us[j]? = some v → ∃ a, some (⟨g, 0, none⟩ : Addr) = some a ∧ (W.alloc (.cells us.toArray e)).cell? (a.add j) = some v := by
  subst h
  intro j v hj
  exact ⟨_, rfl, lit_cell W us e j hj⟩
theorem own_lit {B : Nat} {e : TypeId} (w : World) (l : List Value) (hb : B ≤ w.heap.size) (hl : l.length ≤ 100) : (w.alloc (.cells l.toArray e)).ownsRow B e 1 (.slice (some ⟨w.heap.size, 0, none⟩) l.length l.length) l.length l := by
  refine ⟨by simp, .inr ⟨w.heap.size, l.length, l.toArray, rfl, hb, heap_alloc_new w _, Nat.le_refl _, by unfold maxLen; omega, by simp, ?_⟩⟩
  simp
theorem only_set {w : World} {p : Addr} (u : Value) : Only (fun j => p.block = j) w (w.setCell p u) := (Only.refl _ w).setCell rfl _
/-- The result's box r, the attribute's box x, its rows, the cursor b. -/
structure AState (w : World) (b r x : Nat) (W : World) (A1 : Option Addr) (n1 c1 : Nat) (A2 : Option Addr) (n2 c2 : Nat) (a : AttrD) : Prop where
  ord : b < w.heap.size ∧ w.heap.size ≤ r ∧ w.heap.size ≤ x ∧ r ≠ x
  res : BoxA W r (.string ⟨#[]⟩) (.slice none 0 0) (.slice none 0 0)
  box : BoxA W x (.string a.name) (.slice A1 n1 c1) (.slice A2 n2 c2)
  bag : Bag w.heap.size 2 W (attrRows A1 n1 c1 A2 n2 c2 a)
  ap1 : ∀ k, Value.ownBlock (.slice A1 n1 c1) = some k → k ≠ x ∧ k ≠ r
  ap2 : ∀ k, Value.ownBlock (.slice A2 n2 c2) = some k → k ≠ x ∧ k ≠ r
  cur : Cur W b
  only : Only (· = b) w W
section
variable {w W W2 : World} {b r x : Nat} {A1 A2 : Option Addr} {n1 c1 n2 c2 : Nat} {a : AttrD}
theorem AState.draw (h : AState w b r x W A1 n1 c1 A2 n2 c2 a) (hC : Cur W2 b) (ho : Only (· = b) W W2) : AState w b r x W2 A1 n1 c1 A2 n2 c2 a := by
  have ho' := h.ord
  exact ⟨h.ord, h.res.only ho (by omega), h.box.only ho (by omega), h.bag.only ho (fun k hk e => by have := (h.bag.lt hk).1; omega), h.ap1, h.ap2, hC, h.only.trans ho⟩
theorem AState.keep (h : AState w b r x W A1 n1 c1 A2 n2 c2 a) (hb : Below W.heap.size W W2) : AState w b r x W2 A1 n1 c1 A2 n2 c2 a :=
  ⟨h.ord, h.res.keep hb, h.box.keep hb, h.bag.below hb, h.ap1, h.ap2, h.cur.keep hb, h.only.trans (Only.of_below hb)⟩
theorem AState.hasne (h : AState w b r x W A1 n1 c1 A2 n2 c2 a) {k : Nat} (hk : has 2 (attrRows A1 n1 c1 A2 n2 c2 a) k) : k ≠ x ∧ k ≠ r := by
  obtain ⟨i, hi, e⟩ := hk
  rcases (show i = 0 ∨ i = 1 by omega) with rfl | rfl
  · exact h.ap1 k e
  · exact h.ap2 k e
theorem AState.set0 (h : AState w b r x W A1 n1 c1 A2 n2 c2 a) (nm : ByteArray) : AState w b r x (W.setCell ⟨x, 0, none⟩ (.string nm)) A1 n1 c1 A2 n2 c2 ⟨nm, a.cuts, a.vals⟩ := by
  have ho' := h.ord
  have hs := only_set (w := W) (p := ⟨x, 0, none⟩) (.string nm)
  exact ⟨h.ord, h.res.only hs (by show ¬ x = r; omega), h.box.set0 _, h.bag.only hs (fun k hk e => (h.hasne hk).1 (Eq.symm e)), h.ap1, h.ap2,
    Cur.low h.cur h.ord.1 ((Below.refl _ _).setCell (p := ⟨x, 0, none⟩) h.ord.2.2.1 _), h.only.low ((Below.refl _ _).setCell (p := ⟨x, 0, none⟩) h.ord.2.2.1 _)⟩
/-- What stays when the cuts', the values' row is written or laid anew. -/
def AKept (w : World) (b r x : Nat) (w9 : World) (A1 : Option Addr) (n1 c1 : Nat) (A2 : Option Addr) (n2 c2 : Nat) (a : AttrD) : Prop :=
  BoxA w9 r (.string ⟨#[]⟩) (.slice none 0 0) (.slice none 0 0) ∧ BoxA w9 x (.string a.name) (.slice A1 n1 c1) (.slice A2 n2 c2) ∧ Cur w9 b ∧ Only (· = b) w w9
theorem AState.turn1 {w9 : World} (h : AState w b r x W A1 n1 c1 A2 n2 c2 a) (hb : Below w.heap.size W w9) (hg : W.grownBy w9 (Value.ownBlock (.slice A1 n1 c1))) : AKept w b r x w9 A1 n1 c1 A2 n2 c2 a := by
  have hs : Only (fun j => Value.ownBlock (.slice A1 n1 c1) = some j) W w9 := Only.of_grown hg fun k hk => hk
  exact ⟨h.res.only hs (fun e => (h.ap1 _ e).2 rfl), h.box.only hs (fun e => (h.ap1 _ e).1 rfl), Cur.low h.cur h.ord.1 hb, h.only.low hb⟩
theorem AState.turn2 {w9 : World} (h : AState w b r x W A1 n1 c1 A2 n2 c2 a) (hb : Below w.heap.size W w9) (hg : W.grownBy w9 (Value.ownBlock (.slice A2 n2 c2))) : AKept w b r x w9 A1 n1 c1 A2 n2 c2 a := by
  have hs : Only (fun j => Value.ownBlock (.slice A2 n2 c2) = some j) W w9 := Only.of_grown hg fun k hk => hk
  exact ⟨h.res.only hs (fun e => (h.ap2 _ e).2 rfl), h.box.only hs (fun e => (h.ap2 _ e).1 rfl), Cur.low h.cur h.ord.1 hb, h.only.low hb⟩
theorem AState.put1 {w9 : World} {A1' : Option Addr} {n1' c1' : Nat} {l : List Int} (h0 : AState w b r x W A1 n1 c1 A2 n2 c2 a) (h : AKept w b r x w9 A1 n1 c1 A2 n2 c2 a)
    (hB : Bag w.heap.size 2 w9 (attrRows A1' n1' c1' A2 n2 c2 ⟨a.name, l, a.vals⟩)) (hap : ∀ k, Value.ownBlock (.slice A1' n1' c1') = some k → Value.ownBlock (.slice A1 n1 c1) = some k ∨ W.heap.size ≤ k) :
    AState w b r x (w9.setCell ⟨x, 1, none⟩ (.slice A1' n1' c1')) A1' n1' c1' A2 n2 c2 ⟨a.name, l, a.vals⟩ := by
  have ho' := h0.ord
  have hs := only_set (w := w9) (p := ⟨x, 1, none⟩) (.slice A1' n1' c1')
  have hlow : Below w.heap.size w9 (w9.setCell ⟨x, 1, none⟩ (.slice A1' n1' c1')) := (Below.refl _ _).setCell (p := ⟨x, 1, none⟩) ho'.2.2.1 _
  have ha1 : ∀ k, Value.ownBlock (.slice A1' n1' c1') = some k → k ≠ x ∧ k ≠ r := fun k hk => by
    rcases hap k hk with q | q
    · exact h0.ap1 k q
    · have := h0.box.lt; have := h0.res.lt; omega
  have hhas : ∀ k, has 2 (attrRows A1' n1' c1' A2 n2 c2 ⟨a.name, l, a.vals⟩) k → k ≠ x ∧ k ≠ r := by
    rintro k ⟨i, hi, e⟩
    rcases (show i = 0 ∨ i = 1 by omega) with rfl | rfl
    · exact ha1 k e
    · exact h0.ap2 k e
  exact ⟨ho', h.1.only hs (by show ¬ x = r; omega), h.2.1.set1 _, hB.only hs (fun k hk e => (hhas k hk).1 (Eq.symm e)), ha1, h0.ap2, Cur.low h.2.2.1 ho'.1 hlow, h.2.2.2.low hlow⟩
theorem AState.put2 {w9 : World} {A2' : Option Addr} {n2' c2' : Nat} {l : List ByteArray} (h0 : AState w b r x W A1 n1 c1 A2 n2 c2 a) (h : AKept w b r x w9 A1 n1 c1 A2 n2 c2 a)
    (hB : Bag w.heap.size 2 w9 (attrRows A1 n1 c1 A2' n2' c2' ⟨a.name, a.cuts, l⟩)) (hap : ∀ k, Value.ownBlock (.slice A2' n2' c2') = some k → Value.ownBlock (.slice A2 n2 c2) = some k ∨ W.heap.size ≤ k) :
    AState w b r x (w9.setCell ⟨x, 2, none⟩ (.slice A2' n2' c2')) A1 n1 c1 A2' n2' c2' ⟨a.name, a.cuts, l⟩ := by
  have ho' := h0.ord
  have hs := only_set (w := w9) (p := ⟨x, 2, none⟩) (.slice A2' n2' c2')
  have hlow : Below w.heap.size w9 (w9.setCell ⟨x, 2, none⟩ (.slice A2' n2' c2')) := (Below.refl _ _).setCell (p := ⟨x, 2, none⟩) ho'.2.2.1 _
  have ha2 : ∀ k, Value.ownBlock (.slice A2' n2' c2') = some k → k ≠ x ∧ k ≠ r := fun k hk => by
    rcases hap k hk with q | q
    · exact h0.ap2 k q
    · have := h0.box.lt; have := h0.res.lt; omega
  have hhas : ∀ k, has 2 (attrRows A1 n1 c1 A2' n2' c2' ⟨a.name, a.cuts, l⟩) k → k ≠ x ∧ k ≠ r := by
    rintro k ⟨i, hi, e⟩
    rcases (show i = 0 ∨ i = 1 by omega) with rfl | rfl
    · exact h0.ap1 k e
    · exact ha2 k e
  exact ⟨ho', h.1.only hs (by show ¬ x = r; omega), h.2.1.set2 _, hB.only hs (fun k hk e => (hhas k hk).1 (Eq.symm e)), h0.ap1, ha2, Cur.low h.2.2.1 ho'.1 hlow, h.2.2.2.low hlow⟩
/-- One cut more, one value more. -/
theorem AState.cut {w9 : World} {v : Value} {u : Int} (h : AState w b r x W A1 n1 c1 A2 n2 c2 a) (hv : w9.ownsRow w.heap.size 3 1 v (n1 + 1) (a.cuts.map (Value.int .i64) ++ [.int .i64 u])) (hb : Below w.heap.size W w9)
    (hg : W.grownBy w9 (Value.ownBlock (.slice A1 n1 c1))) (hnew : ∀ g, v.ownBlock = some g → Value.ownBlock (.slice A1 n1 c1) = some g ∨ W.heap.size ≤ g) :
    ∃ A1' c1', v = .slice A1' (n1 + 1) c1' ∧ AState w b r x (w9.setCell ⟨x, 1, none⟩ v) A1' (n1 + 1) c1' A2 n2 c2 ⟨a.name, a.cuts ++ [u], a.vals⟩ := by
  obtain ⟨A', c', rfl, hB⟩ := attr_cut h.bag hv hg hnew
  exact ⟨A', c', rfl, AState.put1 h (h.turn1 hb hg) hB hnew⟩
theorem AState.val {w9 : World} {v : Value} {u : ByteArray} (h : AState w b r x W A1 n1 c1 A2 n2 c2 a) (hv : w9.ownsRow w.heap.size 9 1 v (n2 + 1) (a.vals.map Value.string ++ [.string u])) (hb : Below w.heap.size W w9)
    (hg : W.grownBy w9 (Value.ownBlock (.slice A2 n2 c2))) (hnew : ∀ g, v.ownBlock = some g → Value.ownBlock (.slice A2 n2 c2) = some g ∨ W.heap.size ≤ g) :
    ∃ A2' c2', v = .slice A2' (n2 + 1) c2' ∧ AState w b r x (w9.setCell ⟨x, 2, none⟩ v) A1 n1 c1 A2' (n2 + 1) c2' ⟨a.name, a.cuts, a.vals ++ [u]⟩ := by
  obtain ⟨A', c', rfl, hB⟩ := attr_val h.bag hv hg hnew
  exact ⟨A', c', rfl, AState.put2 h (h.turn2 hb hg) hB hnew⟩
/-- Cuts, values from a literal. -/
theorem AState.cuts_lit (h : AState w b r x W A1 n1 c1 A2 n2 c2 a) (l : List Int) (hl : l.length ≤ 100) :
    AState w b r x ((W.alloc (.cells (l.map (Value.int .i64)).toArray 3)).setCell ⟨x, 1, none⟩ (.slice (some ⟨W.heap.size, 0, none⟩) l.length l.length)) (some ⟨W.heap.size, 0, none⟩) l.length l.length A2 n2 c2 ⟨a.name, l, a.vals⟩ := by
  have hal : Below W.heap.size W (W.alloc (.cells (l.map (Value.int .i64)).toArray 3)) := (Below.refl _ _).alloc (Nat.le_refl _) _
  have hk := h.keep hal
  have ho := own_lit (B := W.heap.size) (e := 3) W (l.map (Value.int .i64)) (Nat.le_refl _) (by simpa using hl)
  simp only [List.length_map] at ho
  exact AState.put1 h ⟨hk.res, hk.box, hk.cur, hk.only⟩ (attr_cuts_set h.bag hal h.only.size (Nat.le_refl _) ho a.name) (fun k hk => .inr (ho.lt k hk).1)
theorem AState.vals_lit (h : AState w b r x W A1 n1 c1 A2 n2 c2 a) (l : List ByteArray) (hl : l.length ≤ 100) :
    AState w b r x ((W.alloc (.cells (l.map Value.string).toArray 9)).setCell ⟨x, 2, none⟩ (.slice (some ⟨W.heap.size, 0, none⟩) l.length l.length)) A1 n1 c1 (some ⟨W.heap.size, 0, none⟩) l.length l.length ⟨a.name, a.cuts, l⟩ := by
  have hal : Below W.heap.size W (W.alloc (.cells (l.map Value.string).toArray 9)) := (Below.refl _ _).alloc (Nat.le_refl _) _
  have hk := h.keep hal
  have ho := own_lit (B := W.heap.size) (e := 9) W (l.map Value.string) (Nat.le_refl _) (by simpa using hl)
  simp only [List.length_map] at ho
  exact AState.put2 h ⟨hk.res, hk.box, hk.cur, hk.only⟩ (attr_vals_set h.bag hal h.only.size (Nat.le_refl _) ho a.name) (fun k hk => .inr (ho.lt k hk).1)
theorem AState.vals_lit' {g : Nat} (h : AState w b r x W A1 n1 c1 A2 n2 c2 a) (hg : W.heap.size = g) (l : List ByteArray) (hl : l.length ≤ 100) :
    AState w b r x ((W.alloc (.cells (l.map Value.string).toArray 9)).setCell ⟨x, 2, none⟩ (.slice (some ⟨g, 0, none⟩) l.length l.length)) A1 n1 c1 (some ⟨g, 0, none⟩) l.length l.length ⟨a.name, a.cuts, l⟩ := by
  subst hg
  exact h.vals_lit l hl
/-- The result written. -/
theorem AState.fin (h : AState w b r x W A1 n1 c1 A2 n2 c2 a) (u0 u1 u2 : Value) : Bag w.heap.size 2 (((W.setCell ⟨r, 0, none⟩ u0).setCell ⟨r, 1, none⟩ u1).setCell ⟨r, 2, none⟩ u2) (attrRows A1 n1 c1 A2 n2 c2 a) ∧
    Cur (((W.setCell ⟨r, 0, none⟩ u0).setCell ⟨r, 1, none⟩ u1).setCell ⟨r, 2, none⟩ u2) b ∧ Only (· = b) w (((W.setCell ⟨r, 0, none⟩ u0).setCell ⟨r, 1, none⟩ u1).setCell ⟨r, 2, none⟩ u2) := by
  have hs : Only (fun j => r = j) W (((W.setCell ⟨r, 0, none⟩ u0).setCell ⟨r, 1, none⟩ u1).setCell ⟨r, 2, none⟩ u2) :=
    (((Only.refl _ W).setCell (p := ⟨r, 0, none⟩) rfl _).setCell (p := ⟨r, 1, none⟩) rfl _).setCell (p := ⟨r, 2, none⟩) rfl _
  have hlow : Below w.heap.size W (((W.setCell ⟨r, 0, none⟩ u0).setCell ⟨r, 1, none⟩ u1).setCell ⟨r, 2, none⟩ u2) :=
    (((Below.refl _ _).setCell (p := ⟨r, 0, none⟩) h.ord.2.1 _).setCell (p := ⟨r, 1, none⟩) h.ord.2.1 _).setCell (p := ⟨r, 2, none⟩) h.ord.2.1 _
  exact ⟨h.bag.only hs (fun k hk e => (h.hasne hk).2 (Eq.symm e)), Cur.low h.cur h.ord.1 hlow, h.only.low hlow⟩
theorem AState.lens (h : AState w b r x W A1 n1 c1 A2 n2 c2 a) : n1 = a.cuts.length ∧ n2 = a.vals.length := ⟨(ints_of (attr_own1 h.bag)).1, (strs_of (attr_own2 h.bag)).1⟩
end
end Go.Proofs.Ytjdncobdecdhmaa
