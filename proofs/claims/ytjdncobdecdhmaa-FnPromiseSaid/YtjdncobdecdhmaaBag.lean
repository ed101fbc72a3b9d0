/-
  Words for memory: a bag of rows, each owned, all apart. No program is named here.
-/
import Derived.Test.YtjdncobdecdhmaaWin
import Derived.Laws.OwnMore
namespace Go.Proofs.Ytjdncobdecdhmaa
open Go.RowKit

theorem quiet_add {P : Program} {f : FuncId} {args : Array Value} {w : World} {a n : Nat} {v : Value}
    (h : Calls P f args (w.drewN (a + n)) fun e w' => e = .returned v ∧ ∃ m, w' = (w.drewN (a + n)).drewN m) :
    Calls P f args (w.drewN (a + n)) fun e w'' => e = .returned v ∧ ∃ m, w'' = w.drewN (a + m) :=
  h.mono fun _ _ ⟨he, m, hm⟩ => ⟨he, n + m, by rw [hm, World.drewN_drewN, Nat.add_assoc]⟩
/-- A row of cells: its element's type and size, the slice value that owns it, its length, its cells. -/
structure Row where
  ty : TypeId
  sz : Nat
  val : Value
  len : Nat
  xs : List Value
def Row.own (r : Row) (B : Nat) (w : World) : Prop := w.ownsRow B r.ty r.sz r.val r.len r.xs
def Row.blk (r : Row) : Option Nat := r.val.ownBlock
def Row.apart (r s : Row) : Prop := r.blk = none ∨ r.blk ≠ s.blk
theorem Row.apart.symm {r s : Row} (h : r.apart s) : s.apart r := by
  unfold Row.apart at *
  rcases h with h | h
  · rw [h]
    rcases hs : s.blk with _ | k
    · exact .inl rfl
    · exact .inr (by simp)
  · exact .inr (Ne.symm h)

/-- Only blocks of S were written, besides new ones. -/
structure Only (S : Nat → Prop) (w w' : World) : Prop where
  os : w'.os = w.os
  tape : w'.tape = w.tape
  output : w'.output = w.output
  size : w.heap.size ≤ w'.heap.size
  block : ∀ k, k < w.heap.size → ¬ S k → w'.heap[k]? = w.heap[k]?
theorem Only.refl (S : Nat → Prop) (w : World) : Only S w w := ⟨rfl, rfl, rfl, Nat.le_refl _, fun _ _ _ => rfl⟩
theorem Only.trans {S : Nat → Prop} {a b c : World} (h : Only S a b) (k : Only S b c) : Only S a c :=
  ⟨k.os.trans h.os, k.tape.trans h.tape, k.output.trans h.output, Nat.le_trans h.size k.size, fun i hi hn => (k.block i (Nat.lt_of_lt_of_le hi h.size) hn).trans (h.block i hi hn)⟩
theorem Only.mono {S T : Nat → Prop} {w w' : World} (h : Only S w w') (hs : ∀ k, S k → T k) : Only T w w' :=
  ⟨h.os, h.tape, h.output, h.size, fun k hk hn => h.block k hk fun hS => hn (hs k hS)⟩
theorem Only.of_below {S : Nat → Prop} {w w' : World} (h : Below w.heap.size w w') : Only S w w' := ⟨h.os, h.tape, h.output, h.size, fun k hk _ => h.block k hk⟩
theorem Only.of_grown {S : Nat → Prop} {w w' : World} {row : Option Nat} (h : w.grownBy w' row) (hs : ∀ k, row = some k → S k) : Only S w w' :=
  ⟨h.os, h.tape, h.output, h.size, fun k hk hn => h.block k hk fun e => hn (hs k e.symm)⟩
theorem Only.below {S : Nat → Prop} {B : Nat} {a w w' : World} (hb : Below B a w) (hB : B ≤ w.heap.size) (h : Only S w w') (hs : ∀ k, S k → B ≤ k) : Below B a w' :=
  hb.trans ⟨h.os, h.tape, h.output, h.size, fun k hk => h.block k (by omega) fun hS => by have := hs k hS; omega⟩
theorem Only.drew {S : Nat → Prop} {a w : World} (h : Only S a w) : Only S a w.drew := ⟨h.os, h.tape, h.output, h.size, h.block⟩
theorem Only.setCell {S : Nat → Prop} {a w : World} (h : Only S a w) {p : Addr} (hp : S p.block) (u : Value) : Only S a (w.setCell p u) :=
  h.trans ⟨rfl, rfl, rfl, by simp [World.setCell], fun k hk hn => Below.heap_setCell _ _ _ _ fun e => hn (e ▸ hp)⟩
theorem own_only {S : Nat → Prop} {w w' : World} {B : Nat} {e : TypeId} {sz n : Nat} {v : Value} {xs : List Value} (h : w.ownsRow B e sz v n xs) (ho : Only S w w') (hs : ∀ k, v.ownBlock = some k → ¬ S k) : w'.ownsRow B e sz v n xs := by
  refine ⟨h.1, ?_⟩
  rcases h.2 with hn | ⟨g, cap, cur, rfl, hb, hgg, rest⟩
  · exact .inl hn
  · refine .inr ⟨g, cap, cur, rfl, hb, ?_, rest⟩
    rw [ho.block g (Array.getElem?_eq_some_iff.1 hgg).1 (hs g rfl)]
    exact hgg
theorem Only.cell {S : Nat → Prop} {w w' : World} (h : Only S w w') {p : Addr} (hp : ¬ S p.block) (hl : p.block < w.heap.size) : w'.cell? p = w.cell? p := World.cell?_of_block (w := w) (h.block p.block hl hp)
theorem Only.win {S : Nat → Prop} {B : Nat} {w w' : World} (h : Only S w w') (hs : ∀ k, S k → k < B) : Win B w w' :=
  ⟨h.size, fun k hk hl => h.block k hl fun hS => by have := hs k hS; omega⟩

/-- Rows 0 .. N - 1, each owned, in blocks from B on, no two in one block. -/
structure Bag (B N : Nat) (w : World) (r : Nat → Row) : Prop where
  own : ∀ i, i < N → (r i).own B w
  sep : ∀ i j, i < N → j < N → i ≠ j → (r i).apart (r j)
def has (N : Nat) (r : Nat → Row) (k : Nat) : Prop := ∃ i, i < N ∧ (r i).blk = some k
def rput (r : Nat → Row) (i : Nat) (s : Row) : Nat → Row := fun j => if j = i then s else r j
def rcat (N : Nat) (r s : Nat → Row) : Nat → Row := fun j => if j < N then r j else s (j - N)
theorem rput_same (r : Nat → Row) (i : Nat) (s : Row) : rput r i s i = s := by simp [rput]
theorem rput_other (r : Nat → Row) {i j : Nat} (s : Row) (h : j ≠ i) : rput r i s j = r j := by simp [rput, h]

section
variable {B N : Nat} {w w' : World} {r : Nat → Row}
theorem Bag.lt (h : Bag B N w r) {k : Nat} (hk : has N r k) : B ≤ k ∧ k < w.heap.size := by
  obtain ⟨i, hi, e⟩ := hk
  exact (h.own i hi).lt k e
theorem Bag.nil : Bag B 0 w r := ⟨fun i hi => by omega, fun i j hi => by omega⟩
theorem Bag.mono {B' : Nat} (h : Bag B N w r) (hB : B' ≤ B) : Bag B' N w r :=
  ⟨fun i hi => by
    obtain ⟨h1, h2⟩ := h.own i hi
    refine ⟨h1, ?_⟩
    rcases h2 with h2 | ⟨g, cap, cur, e, hb, rest⟩
    · exact .inl h2
    · exact .inr ⟨g, cap, cur, e, Nat.le_trans hB hb, rest⟩, h.sep⟩
theorem Bag.only {S : Nat → Prop} (h : Bag B N w r) (ho : Only S w w') (hs : ∀ k, has N r k → ¬ S k) : Bag B N w' r :=
  ⟨fun i hi => own_only (h.own i hi) ho fun k hk => hs k ⟨i, hi, hk⟩, h.sep⟩
theorem Bag.below (h : Bag B N w r) (hb : Below w.heap.size w w') : Bag B N w' r := ⟨fun i hi => own_below (h.own i hi) hb, h.sep⟩
theorem Bag.less {M : Nat} (h : Bag B N w r) (hM : M ≤ N) : Bag B M w r := ⟨fun i hi => h.own i (by omega), fun i j hi hj => h.sep i j (by omega) (by omega)⟩
theorem Bag.shift {M o : Nat} (h : Bag B N w r) (hM : o + M ≤ N) : Bag B M w (fun i => r (o + i)) := ⟨fun i hi => h.own _ (by omega), fun i j hi hj hij => h.sep _ _ (by omega) (by omega) (by omega)⟩
theorem Bag.congr {s : Nat → Row} (h : Bag B N w r) (e : ∀ i, i < N → s i = r i) : Bag B N w s :=
  ⟨fun i hi => by rw [e i hi]; exact h.own i hi, fun i j hi hj hij => by rw [e i hi, e j hj]; exact h.sep i j hi hj hij⟩

/-- Row i turned: written in place, or laid anew. -/
theorem Bag.turn (h : Bag B N w r) {i : Nat} (hi : i < N) {s : Row} (hg : w.grownBy w' (r i).blk) (ho : s.own B w') (hs : ∀ g, s.blk = some g → (r i).blk = some g ∨ w.heap.size ≤ g) : Bag B N w' (rput r i s) := by
  have hlt : ∀ j, j < N → ∀ g, (r j).blk = some g → g < w.heap.size := fun j hj g e => ((h.own j hj).lt g e).2
  have key : ∀ j, j < N → j ≠ i → s.apart (r j) := by
    intro j hj hji
    unfold Row.apart
    rcases hb : s.blk with _ | g
    · exact .inl rfl
    · refine .inr fun e => ?_
      rcases hs g hb with k | k
      · rcases h.sep i j hi hj (Ne.symm hji) with q | q
        · rw [k] at q; simp at q
        · exact q (k.trans e)
      · have := hlt j hj g e.symm
        omega
  refine ⟨fun j hj => ?_, fun j l hj hl hjl => ?_⟩
  · by_cases e : j = i
    · subst e; rw [rput_same]; exact ho
    · rw [rput_other r s e]
      exact (h.own j hj).kept hg (h.sep j i hj hi e)
  · by_cases e : j = i
    · subst e
      rw [rput_same, rput_other r s (Ne.symm hjl)]
      exact key l hl (Ne.symm hjl)
    · rw [rput_other r s e]
      by_cases e2 : l = i
      · subst e2
        rw [rput_same]
        exact (key j hj e).symm
      · rw [rput_other r s e2]
        exact h.sep j l hj hl hjl
/-- Row i written in place. -/
theorem Bag.store (h : Bag B N w r) {i : Nat} (hi : i < N) {s : Row} (hg : w.grownBy w' (r i).blk) (ho : s.own B w') (hs : s.blk = (r i).blk) : Bag B N w' (rput r i s) :=
  h.turn hi hg ho fun _ e => .inl (hs ▸ e)
/-- One row more, made behind w. -/
theorem Bag.snoc (h : Bag B N w r) {s : Row} (hb : Below w.heap.size w w') (ho : s.own B w') (hs : ∀ g, s.blk = some g → w.heap.size ≤ g) : Bag B (N + 1) w' (rput r N s) := by
  have key : ∀ j, j < N → s.apart (r j) := by
    intro j hj
    unfold Row.apart
    rcases hb : s.blk with _ | g
    · exact .inl rfl
    · refine .inr fun e => ?_
      have h1 := hs g hb
      have h2 := ((h.own j hj).lt g e.symm).2
      omega
  refine ⟨fun j hj => ?_, fun j l hj hl hjl => ?_⟩
  · by_cases e : j = N
    · subst e; rw [rput_same]; exact ho
    · rw [rput_other r s e]
      exact own_below (h.own j (by omega)) hb
  · by_cases e : j = N
    · subst e
      rw [rput_same, rput_other r s (Ne.symm hjl)]
      exact key l (by omega)
    · rw [rput_other r s e]
      by_cases e2 : l = N
      · subst e2
        rw [rput_same]
        exact (key j (by omega)).symm
      · rw [rput_other r s e2]
        exact h.sep j l (by omega) (by omega) hjl
/-- Two bags, the second made behind the first. -/
theorem Bag.cat (h : Bag B N w r) {M B' : Nat} {s : Nat → Row} (hs : Bag B' M w' s) (hB : B ≤ B') (hw : w.heap.size ≤ B') (hb : Below w.heap.size w w') : Bag B (N + M) w' (rcat N r s) := by
  have h1 := h.below hb
  have h2 := hs.mono hB
  have key : ∀ i j, i < N → j < M → (r i).apart (s j) := by
    intro i j hi hj
    unfold Row.apart
    rcases e1 : (r i).blk with _ | g
    · exact .inl rfl
    · refine .inr fun e => ?_
      have k1 := ((h.own i hi).lt g e1).2
      have k2 := ((hs.own j hj).lt g e.symm).1
      omega
  refine ⟨fun i hi => ?_, fun i j hi hj hij => ?_⟩
  · unfold rcat
    split
    · exact h1.own i (by omega)
    · exact h2.own (i - N) (by omega)
  · unfold rcat
    split <;> split
    · exact h.sep i j (by omega) (by omega) hij
    · exact key i (j - N) (by omega) (by omega)
    · exact (key j (i - N) (by omega) (by omega)).symm
    · exact hs.sep (i - N) (j - N) (by omega) (by omega) (by omega)
/-- One cell of row i written. -/
theorem Bag.poke (h : Bag B N w r) {i g c : Nat} (hi : i < N) (hv : (r i).val = .slice (some ⟨g, 0, none⟩) (r i).len c) (j : Nat) (u : Value) :
    Bag B N (w.setCell ⟨g, j, none⟩ u) (rput r i ⟨(r i).ty, (r i).sz, (r i).val, (r i).len, (r i).xs.set j u⟩) := by
  have ho := h.own i hi
  unfold Row.own at ho
  rw [hv] at ho
  have hst := ho.stored j u
  refine h.store hi ?_ ?_ rfl
  · unfold Row.blk; rw [hv]; exact hst.2
  · unfold Row.own; rw [hv]; exact hst.1
theorem Bag.one {s : Row} (h : s.own B w) : Bag B 1 w (fun _ => s) := ⟨fun _ _ => h, fun i j hi hj hij => by omega⟩
def rpair (s t : Row) : Nat → Row := fun i => if i = 0 then s else t
theorem Bag.pair {w1 w2 : World} {B' : Nat} {s t : Row} (h1 : s.own B w1) (h2 : t.own B' w2) (hb : Below w1.heap.size w1 w2) (hB : B ≤ B') (hw : w1.heap.size ≤ B') : Bag B 2 w2 (rpair s t) :=
  ((Bag.one h1).cat (Bag.one h2) hB hw hb).congr fun i hi => by
    unfold rpair rcat
    by_cases e : i = 0
    · subst e; simp
    · rw [if_neg e, if_neg (by omega)]
theorem has_rput {i : Nat} {s : Row} (hs : s.blk = (r i).blk) {k : Nat} : has N (rput r i s) k ↔ has N r k := by
  unfold has
  refine ⟨fun ⟨j, hj, e⟩ => ⟨j, hj, ?_⟩, fun ⟨j, hj, e⟩ => ⟨j, hj, ?_⟩⟩
  · by_cases q : j = i
    · subst q; rw [rput_same] at e; rw [← hs]; exact e
    · rw [rput_other r s q] at e; exact e
  · by_cases q : j = i
    · subst q; rw [rput_same, hs]; exact e
    · rw [rput_other r s q]; exact e
end
end Go.Proofs.Ytjdncobdecdhmaa
