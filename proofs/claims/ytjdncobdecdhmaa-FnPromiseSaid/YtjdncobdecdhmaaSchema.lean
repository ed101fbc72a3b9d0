/-
  Schemas: words, opening.
-/
import Derived.Test.YtjdncobdecdhmaaAttr3
import Derived.Test.YtjdncobdecdhmaaLib
import Derived.Test.YtjdncobdecdhmaaBag
import Derived.Deep.RegionHeld3
namespace Go.Proofs.Ytjdncobdecdhmaa
open Go.ChangeShapes Go.WideShapes Go.ChangeAt Go.RowKit Go.Deep Go.Joins
set_option maxRecDepth 100000

/-- The row of the integers l in the slice A, n, c. -/
def intRow (A : Option Addr) (n c : Nat) (l : List Int) : Row := ⟨3, 1, .slice A n c, n, l.map (Value.int .i64)⟩
/-- The row of the strings l in the slice A, n, c. -/
def strRow (A : Option Addr) (n c : Nat) (l : List ByteArray) : Row := ⟨9, 1, .slice A n c, n, l.map Value.string⟩
structure SchemaD where
  attrs : List AttrD
  classes : List ByteArray
def wAttrs (l : List AttrD) : Nat := l.length + (l.map wAttr).sum
def wSchema (d : SchemaD) : Nat := wAttrs d.attrs + wStrs d.classes
/-- an attribute's cells, small -/
def AttrN (w : World) (cs : List Value) (a : AttrD) : Prop := ∃ A1 n1 c1 A2 n2 c2, cs = [.string a.name, .slice A1 n1 c1, .slice A2 n2 c2] ∧ AttrM w A1 n1 c1 A2 n2 c2 a
abbrev AttrsM := Slc 3 AttrN
theorem AttrsM.keep {w w' : World} {A : Option Addr} {n : Nat} {l : List AttrD} (h : AttrsM w A n l) (hb : Below w.heap.size w w') : AttrsM w' A n l :=
  h.mono (fun _ _ ⟨A1, n1, c1, A2, n2, c2, e, hh⟩ => ⟨A1, n1, c1, A2, n2, c2, e, hh.keep hb⟩) hb
theorem getD_of_lt {α : Type} [Inhabited α] {l : List α} {k : Nat} (h : k < l.length) (d : α) : l[k]?.getD d = l[k] := by simp [h]
theorem add_field (ad : Addr) (i j : Nat) (hj : 0 < j) : ad.add (i + j) = ⟨(ad.add i).block, (ad.add i).off + j, none⟩ := by
  rw [← add_of_add]
  generalize ad.add i = b
  unfold Addr.add
  rw [if_neg (by omega)]
/-- One attribute of a slice: its three cells. -/
theorem Attrs.at_ {w : World} {A : Option Addr} {n : Nat} {l : List AttrD} (h : Attrs w A n l) {k : Nat} (hk : k < n) : ∃ ad A1 n1 c1 A2 n2 c2, A = some ad ∧ ad.block < w.heap.size ∧
    w.cell? (ad.add (k * 3)) = some (.string (l[k]?.getD default).name) ∧ w.cell? ⟨(ad.add (k * 3)).block, (ad.add (k * 3)).off + 1, none⟩ = some (.slice A1 n1 c1) ∧ w.cell? ⟨(ad.add (k * 3)).block, (ad.add (k * 3)).off + 2, none⟩ = some (.slice A2 n2 c2) ∧ AttrI w A1 n1 c1 A2 n2 c2 (l[k]?.getD default) := by
  obtain ⟨ad, e, hlt, hc⟩ := h.2 (by omega)
  have hk' : k < l.length := by have := h.1; omega
  obtain ⟨cs, _, ⟨A1, n1, c1, A2, n2, c2, he, hm⟩, hj⟩ := hc k hk'
  subst he
  rw [getD_of_lt hk']
  exact ⟨ad, A1, n1, c1, A2, n2, c2, e, hlt, hj 0 _ rfl, by rw [← add_field _ _ _ (by omega)]; exact hj 1 _ rfl, by rw [← add_field _ _ _ (by omega)]; exact hj 2 _ rfl, hm⟩
theorem AttrsM.at_ {w : World} {A : Option Addr} {n : Nat} {l : List AttrD} (h : AttrsM w A n l) {k : Nat} (hk : k < n) : ∃ ad A1 n1 c1 A2 n2 c2, A = some ad ∧ ad.block < w.heap.size ∧
    w.cell? (ad.add (k * 3)) = some (.string (l[k]?.getD default).name) ∧ w.cell? ⟨(ad.add (k * 3)).block, (ad.add (k * 3)).off + 1, none⟩ = some (.slice A1 n1 c1) ∧ w.cell? ⟨(ad.add (k * 3)).block, (ad.add (k * 3)).off + 2, none⟩ = some (.slice A2 n2 c2) ∧ AttrM w A1 n1 c1 A2 n2 c2 (l[k]?.getD default) := by
  obtain ⟨ad, e, hlt, hc⟩ := h.2 (by omega)
  have hk' : k < l.length := by have := h.1; omega
  obtain ⟨cs, _, ⟨A1, n1, c1, A2, n2, c2, he, hm⟩, hj⟩ := hc k hk'
  subst he
  rw [getD_of_lt hk']
  exact ⟨ad, A1, n1, c1, A2, n2, c2, e, hlt, hj 0 _ rfl, by rw [← add_field _ _ _ (by omega)]; exact hj 1 _ rfl, by rw [← add_field _ _ _ (by omega)]; exact hj 2 _ rfl, hm⟩
theorem sum_ge {α : Type} {f : α → Nat} {l : List α} {x : α} (h : x ∈ l) : f x ≤ (l.map f).sum := by
  induction l with
  | nil => simp at h
  | cons y l ih =>
    rcases List.mem_cons.1 h with rfl | h
    · simp
    · have := ih h; simp; omega
theorem sum_take {α : Type} [Inhabited α] {f : α → Nat} {l : List α} {k : Nat} (hk : k < l.length) (d : α) : ((l.take (k + 1)).map f).sum = ((l.take k).map f).sum + f (l[k]?.getD d) := by
  rw [List.take_succ_eq_append_getElem hk, List.map_append, List.sum_append, getD_of_lt hk]; simp only [List.map_cons, List.map_nil, List.sum_cons, List.sum_nil, Nat.add_zero]
theorem Attrs.small {w : World} {A : Option Addr} {n : Nat} {l : List AttrD} (h : Attrs w A n l) (hw : wAttrs l ≤ 1048576) : AttrsM w A n l :=
  ⟨h.1, fun hn => by
    obtain ⟨ad, e, hlt, hc⟩ := h.2 hn
    refine ⟨ad, e, hlt, fun i hi => ?_⟩
    obtain ⟨cs, h1, ⟨A1, n1, c1, A2, n2, c2, he, hm⟩, h3⟩ := hc i hi
    have := sum_ge (f := wAttr) (List.getElem_mem hi)
    unfold wAttrs at hw
    exact ⟨cs, h1, ⟨A1, n1, c1, A2, n2, c2, he, hm.small (by omega)⟩, h3⟩⟩

/-- A schema as it came in; a small one. -/
def SchemaI (w : World) (x0 x1 : Value) (d : SchemaD) : Prop := ∃ A n c B m k, x0 = .slice A n c ∧ x1 = .slice B m k ∧ Attrs w A n d.attrs ∧ n ≤ maxLen ∧ Strs w B m d.classes ∧ (∀ s ∈ d.classes, s.size ≤ maxLen) ∧ m ≤ maxLen ∧ m ≤ k
def SchemaM (w : World) (x0 x1 : Value) (d : SchemaD) : Prop := ∃ A n c B m k, x0 = .slice A n c ∧ x1 = .slice B m k ∧ AttrsM w A n d.attrs ∧ n ≤ 1048576 ∧ Strs w B m d.classes ∧ (∀ s ∈ d.classes, s.size ≤ 1048576) ∧ m ≤ 1048576 ∧ m ≤ k
theorem SchemaI.keep {w w' : World} {x0 x1 : Value} {d : SchemaD} (h : SchemaI w x0 x1 d) (hb : Below w.heap.size w w') : SchemaI w' x0 x1 d := by
  obtain ⟨A, n, c, B, m, k, h1, h2, h3, h4, h5, h6⟩ := h
  exact ⟨A, n, c, B, m, k, h1, h2, h3.keep hb, h4, h5.keep hb, h6⟩
theorem SchemaM.keep {w w' : World} {x0 x1 : Value} {d : SchemaD} (h : SchemaM w x0 x1 d) (hb : Below w.heap.size w w') : SchemaM w' x0 x1 d := by
  obtain ⟨A, n, c, B, m, k, h1, h2, h3, h4, h5, h6⟩ := h
  exact ⟨A, n, c, B, m, k, h1, h2, h3.keep hb, h4, h5.keep hb, h6⟩
theorem SchemaI.small {w : World} {x0 x1 : Value} {d : SchemaD} (h : SchemaI w x0 x1 d) (hw : wSchema d ≤ 1048576) : SchemaM w x0 x1 d := by
  obtain ⟨A, n, c, B, m, k, h1, h2, h3, h4, h5, h6, h7, h8⟩ := h
  have e1 := h3.1
  have e2 := h5.1
  unfold wSchema at hw
  refine ⟨A, n, c, B, m, k, h1, h2, h3.small (by omega), ?_, h5, fun s hs => ?_, ?_, h8⟩
  · unfold wAttrs at hw; omega
  · have := size_le_sum hs; unfold wStrs at hw; omega
  · unfold wStrs at hw; omega

section
variable {H : Type} {enc : TypeId × Value → H} {w : World} {base : Nat} {spare : Nat → Bool} {held : Bool}
theorem attrs_of_trod {cs : List Value} {n : Nat} {y : DataW H × List MemPlace} (h : DataW.trod enc Try.prog w base spare held n 33 cs = some y) : ∃ A n c l, cs = [.slice A n c] ∧ n ≤ c ∧ c ≤ maxLen ∧ Attrs w A n l :=
  slc_of_trod Try.underlying33 cellsAttr (by omega) (fun _ _ _ => attrE_of_trod) h
theorem open_schema {b0 : Nat} {r : Reach} {v : Value} {d : DataW H} {p : List MemPlace} (hv : Value.okWide Try.prog w r b0 35 v) (h : DataW.Trod enc Try.prog w base spare held 35 v d p) :
    ∃ (x0 x1 : Value) (d : SchemaD), v = .agg #[x0, x1] ∧ SchemaI w x0 x1 d := by
  obtain ⟨u0, u1, y0, y1, n, rfl, _, _, h0, h1⟩ := open_agg2 Try.underlying35 (by kernel_rfl) (show Try.prog.cellsOf 35 = 2 by kernel_rfl) hv h
  obtain ⟨A1, n1, c1, l1, k1, k2, k3, k4⟩ := attrs_of_trod h0
  obtain ⟨A2, n2, c2, l2, j1, j2, j3, j4, j5⟩ := strs_of_trod h1
  simp only [List.cons.injEq, and_true] at k1 j1
  subst k1 j1
  exact ⟨_, _, ⟨l1, l2⟩, rfl, A1, n1, c1, A2, n2, c2, rfl, rfl, k4, by omega, j4, j5, by omega, j2⟩
end
end Go.Proofs.Ytjdncobdecdhmaa
