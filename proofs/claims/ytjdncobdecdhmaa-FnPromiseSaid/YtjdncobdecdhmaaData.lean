/-
  Opening attributes, schemas, examples, statistics.
-/
import Derived.Test.YtjdncobdecdhmaaOpen
import Derived.Test.YtjdncobdecdhmaaAttr
import Derived.Test.YtjdncobdecdhmaaWords
import Derived.Deep.Strs
namespace Go.Proofs.Ytjdncobdecdhmaa
open Go.ChangeShapes Go.WideShapes Go.ChangeAt Go.RowKit Go.Deep Go.Joins

set_option maxRecDepth 100000
def wAttr (a : AttrD) : Nat := a.name.size + a.cuts.length + wStrs a.vals
/-- An attribute as it came in. -/
structure AttrI (w : World) (A1 : Option Addr) (n1 c1 : Nat) (A2 : Option Addr) (n2 c2 : Nat) (a : AttrD) : Prop where
  cuts : Ints w A1 n1 a.cuts
  vals : Strs w A2 n2 a.vals
  name : a.name.size ≤ maxLen
  sizes : ∀ s ∈ a.vals, s.size ≤ maxLen
  b1 : n1 ≤ maxLen
  b2 : n2 ≤ maxLen
  cc : n2 ≤ c2
theorem AttrI.keep {w w' : World} {A1 A2 : Option Addr} {n1 c1 n2 c2 : Nat} {a : AttrD} (h : AttrI w A1 n1 c1 A2 n2 c2 a) (hb : Below w.heap.size w w') : AttrI w' A1 n1 c1 A2 n2 c2 a :=
  ⟨h.cuts.keep hb, h.vals.keep hb, h.name, h.sizes, h.b1, h.b2, h.cc⟩
theorem size_le_sum {l : List ByteArray} {s : ByteArray} (h : s ∈ l) : s.size ≤ (l.map ByteArray.size).sum := by
  induction l with
  | nil => simp at h
  | cons x l ih =>
    rcases List.mem_cons.1 h with rfl | h
    · simp
    · have := ih h; simp; omega
theorem AttrI.small {w : World} {A1 A2 : Option Addr} {n1 c1 n2 c2 : Nat} {a : AttrD} (h : AttrI w A1 n1 c1 A2 n2 c2 a) (hw : wAttr a ≤ 1048576) : AttrM w A1 n1 c1 A2 n2 c2 a := by
  have h1 := h.cuts.1
  have h2 := h.vals.1
  unfold wAttr wStrs at hw
  exact ⟨h.cuts, h.vals, by omega, fun s hs => by have := size_le_sum hs; omega, by omega, by omega, h.cc⟩
def AttrE (w : World) (cs : List Value) (a : AttrD) : Prop := ∃ A1 n1 c1 A2 n2 c2, cs = [.string a.name, .slice A1 n1 c1, .slice A2 n2 c2] ∧ AttrI w A1 n1 c1 A2 n2 c2 a
abbrev Attrs := Slc 3 AttrE
def RowE (w : World) (cs : List Value) (l : List Int) : Prop := ∃ A n c, cs = [.slice A n c] ∧ n ≤ maxLen ∧ Ints w A n l
abbrev IntRows := Slc 1 RowE

theorem Attrs.keep {w w' : World} {A : Option Addr} {n : Nat} {l : List AttrD} (h : Attrs w A n l) (hb : Below w.heap.size w w') : Attrs w' A n l :=
  h.mono (fun _ _ ⟨A1, n1, c1, A2, n2, c2, e, hh⟩ => ⟨A1, n1, c1, A2, n2, c2, e, hh.keep hb⟩) hb
theorem IntRows.keep {w w' : World} {A : Option Addr} {n : Nat} {l : List (List Int)} (h : IntRows w A n l) (hb : Below w.heap.size w w') : IntRows w' A n l :=
  h.mono (fun _ _ ⟨A1, n1, c1, e, h1, hh⟩ => ⟨A1, n1, c1, e, h1, hh.keep hb⟩) hb

instance : Inhabited AttrD := ⟨⟨ByteArray.empty, [], []⟩⟩

section
variable {H : Type} {enc : TypeId × Value → H} {w : World} {base : Nat} {spare : Nat → Bool} {held : Bool}

/-- A slice of elements of any type, opened. -/
theorem slc_of_trod {α : Type} [Inhabited α] {E : World → List Value → α → Prop} {t e : TypeId} {sz fuel : Nat} {cs : List Value} {x : DataW H × List MemPlace} (ht : Try.prog.underlying t = some (.slice e)) (hc : Try.prog.cellsOf e = sz)
    (hsz : 0 < sz) (hE : ∀ cs n y, DataW.trod enc Try.prog w base spare held n e cs = some y → ∃ a, E w cs a) (h : DataW.trod enc Try.prog w base spare held fuel t cs = some x) :
    ∃ (A : Option Addr) (n c : Nat) (l : List α), cs = [.slice A n c] ∧ n ≤ c ∧ c ≤ maxLen ∧ Slc sz E w A n l := by
  subst hc
  rcases DataW.trod_slice ht h with ⟨rfl, _⟩ | ⟨a, len, cap, elems, rest, n, _, rfl, _, _, hl, hm, hlen, hel, _, _⟩
  · exact ⟨none, 0, 0, [], rfl, Nat.le_refl _, by simp [maxLen], rfl, fun h => absurd h (by omega)⟩
  · have each : ∀ i, i < len → ∃ b : α × List Value, b.2.length = Try.prog.cellsOf e ∧ E w b.2 b.1 ∧ ∀ j u, b.2[j]? = some u → w.cell? (a.add (i * Try.prog.cellsOf e + j)) = some u := by
      intro i hi
      have h1 := hel i hi
      rw [List.getElem?_eq_getElem (by omega)] at h1
      obtain ⟨cs, hcs, hy⟩ := Option.bind_eq_some_iff.1 h1
      obtain ⟨_, k1, k2⟩ := World.cells?_some hcs
      obtain ⟨b, hb⟩ := hE _ _ _ hy
      refine ⟨(b, cs), k1, hb, fun j u hu => ?_⟩
      have hj : j < cs.length := by
        rcases Nat.lt_or_ge j cs.length with h | h
        · exact h
        · rw [List.getElem?_eq_none h] at hu; simp at hu
      have := k2 j (by omega)
      rw [add_of_add] at this
      rw [this, hu]
    obtain ⟨f, hf⟩ := choose_lt each
    refine ⟨some a, len, cap, (List.range len).map fun i => (f i).1, rfl, hl, hm, by simp, fun hn => ⟨a, rfl, ?_, fun i hi => ?_⟩⟩
    · obtain ⟨k1, _, k3⟩ := hf 0 hn
      have h0 : 0 < (f 0).2.length := by omega
      have := addr_lt_of_cell (k3 0 _ (List.getElem?_eq_getElem h0))
      rwa [block_of_add] at this
    · have hi' : i < len := by simpa using hi
      obtain ⟨k1, k2, k3⟩ := hf i hi'
      refine ⟨(f i).2, k1, ?_, k3⟩
      simpa using k2

theorem intE_of_trod {cs : List Value} {n : Nat} {y : DataW H × List MemPlace} (h : DataW.trod enc Try.prog w base spare held n 3 cs = some y) : ∃ a, IntE w cs a := by
  obtain ⟨x, hx, _⟩ := DataW.trod_int Try.underlying3 h
  exact ⟨x, hx⟩
def StrS (w : World) (cs : List Value) (s : ByteArray) : Prop := StrE w cs s ∧ s.size ≤ maxLen
theorem strS_of_trod {cs : List Value} {n : Nat} {y : DataW H × List MemPlace} (h : DataW.trod enc Try.prog w base spare held n 9 cs = some y) : ∃ a, StrS w cs a := by
  obtain ⟨s, hs, _, hz⟩ := DataW.trod_string Try.underlying9 h
  exact ⟨s, hs, hz⟩
theorem strs_of_strS {A : Option Addr} {n : Nat} {l : List ByteArray} (h : Slc 1 StrS w A n l) : Strs w A n l ∧ ∀ s ∈ l, s.size ≤ maxLen := by
  refine ⟨⟨h.1, fun hn => ?_⟩, fun s hs => ?_⟩
  · obtain ⟨ad, e, hlt, hc⟩ := h.2 hn
    refine ⟨ad, e, hlt, fun i hi => ?_⟩
    obtain ⟨cs, h1, h2, h3⟩ := hc i hi
    exact ⟨cs, h1, h2.1, h3⟩
  · obtain ⟨i, hi, rfl⟩ := List.mem_iff_getElem.1 hs
    obtain ⟨ad, e, hlt, hc⟩ := h.2 (by have := h.1; omega)
    obtain ⟨cs, h1, h2, h3⟩ := hc i hi
    exact h2.2
theorem cellsStr : Try.prog.cellsOf 9 = 1 := by kernel_rfl
theorem cellsIntS : Try.prog.cellsOf 28 = 1 := by kernel_rfl
theorem ints_of_trod {cs : List Value} {n : Nat} {y : DataW H × List MemPlace} (h : DataW.trod enc Try.prog w base spare held n 28 cs = some y) : ∃ A n c l, cs = [.slice A n c] ∧ n ≤ c ∧ c ≤ maxLen ∧ Ints w A n l :=
  slc_of_trod Try.underlying28 cellsI (by omega) (fun _ _ _ => intE_of_trod) h
theorem strs_of_trod {cs : List Value} {n : Nat} {y : DataW H × List MemPlace} (h : DataW.trod enc Try.prog w base spare held n 26 cs = some y) : ∃ A n c l, cs = [.slice A n c] ∧ n ≤ c ∧ c ≤ maxLen ∧ Strs w A n l ∧ ∀ s ∈ l, s.size ≤ maxLen := by
  obtain ⟨A, n, c, l, h1, h2, h3, h4⟩ := slc_of_trod (E := StrS) Try.underlying26 cellsStr (by omega) (fun _ _ _ => strS_of_trod) h
  exact ⟨A, n, c, l, h1, h2, h3, strs_of_strS h4⟩
theorem rowE_of_trod {cs : List Value} {n : Nat} {y : DataW H × List MemPlace} (h : DataW.trod enc Try.prog w base spare held n 28 cs = some y) : ∃ l, RowE w cs l := by
  obtain ⟨A, n, c, l, h1, h2, h3, h4⟩ := ints_of_trod h
  exact ⟨l, A, n, c, h1, by omega, h4⟩

theorem cellsAttr : Try.prog.cellsOf 93 = 3 := by kernel_rfl
theorem attrE_of_trod {cs : List Value} {n : Nat} {y : DataW H × List MemPlace} (h : DataW.trod enc Try.prog w base spare held n 93 cs = some y) : ∃ a, AttrE w cs a := by
  obtain ⟨y0, y1, y2, n, _, hl, h0, h1, h2⟩ := trod_struct3 Try.underlying93 h
  rw [cellsAttr] at hl
  obtain ⟨u0, u1, u2, rfl⟩ : ∃ u0 u1 u2, cs = [u0, u1, u2] := by
    match cs, hl with
    | [u0, u1, u2], _ => exact ⟨u0, u1, u2, rfl⟩
  have e0 : ((([u0, u1, u2] : List Value).drop 0).take (Try.prog.cellsOf 9)) = [u0] := by rw [cellsStr]; rfl
  have e1 : ((([u0, u1, u2] : List Value).drop 1).take (Try.prog.cellsOf 28)) = [u1] := by rw [cellsIntS]; rfl
  have e2 : ((([u0, u1, u2] : List Value).drop 2).take (Try.prog.cellsOf 26)) = [u2] := by rw [show Try.prog.cellsOf 26 = 1 by kernel_rfl]; rfl
  obtain ⟨s, hs, _, hz⟩ := DataW.trod_string Try.underlying9 (e0 ▸ h0)
  obtain ⟨A1, n1, c1, l1, k1, k2, k3, k4⟩ := ints_of_trod (e1 ▸ h1)
  obtain ⟨A2, n2, c2, l2, j1, j2, j3, j4, j5⟩ := strs_of_trod (e2 ▸ h2)
  simp only [List.cons.injEq, and_true] at hs k1 j1
  subst hs k1 j1
  exact ⟨⟨s, l1, l2⟩, A1, n1, c1, A2, n2, c2, rfl, k4, j4, hz, j5, by omega, by omega, j2⟩
theorem open_attr {b0 : Nat} {r : Reach} {v : Value} {d : DataW H} {p : List MemPlace} (hv : Value.okWide Try.prog w r b0 93 v) (h : DataW.Trod enc Try.prog w base spare held 93 v d p) :
    ∃ (A1 : Option Addr) (n1 c1 : Nat) (A2 : Option Addr) (n2 c2 : Nat) (a : AttrD), v = .agg #[.string a.name, .slice A1 n1 c1, .slice A2 n2 c2] ∧ AttrI w A1 n1 c1 A2 n2 c2 a := by
  obtain ⟨cs, rfl, hsz⟩ := okWide_struct Try.underlying93 hv
  obtain ⟨fuel, hf⟩ := h
  obtain ⟨a, A1, n1, c1, A2, n2, c2, e, h⟩ := attrE_of_trod hf
  have e' : cs.toList = _ := e
  refine ⟨A1, n1, c1, A2, n2, c2, a, ?_, h⟩
  rw [← Array.toArray_toList (xs := cs), e']
end
end Go.Proofs.Ytjdncobdecdhmaa
