/-
  Words for memory: slices that read as lists. No program is named here.
-/
import Derived.WalkKit
import Derived.WalkSpells
import Derived.WalkLawsBesides
import Derived.Deep.QuietTactic
import Derived.BigQuiet
import Derived.Deep.Draws
import Derived.Deep.AppendLies
namespace Go.Proofs.Ytieokdeiafmcaaa
open Go.RowKit

theorem hide {p : Prop} (h : p) : Hid p := h
theorem block_of_add (a : Addr) (n : Nat) : (a.add n).block = a.block := by unfold Addr.add; split <;> rfl
theorem add_of_add (a : Addr) (i j : Nat) : (a.add i).add j = a.add (i + j) := by
  unfold Addr.add
  by_cases hi : i = 0 <;> by_cases hj : j = 0 <;> simp [hi, hj, Nat.add_assoc]

theorem below_drewN {B : Nat} {a w : World} (h : Below B a w) (n : Nat) : Below B a (w.drewN n) := ⟨h.os, h.tape, h.output, h.size, h.block⟩
theorem bcell {W w1 : World} (hb : Below W.heap.size W w1) :
    (∀ b o, b < W.heap.size → w1.cell? ⟨b, o, none⟩ = W.cell? ⟨b, o, none⟩) ∧ (∀ b o, b < W.heap.size → w1.frozen? ⟨b, o, none⟩ = W.frozen? ⟨b, o, none⟩) :=
  ⟨fun b o h => hb.cell (p := ⟨b, o, none⟩) h, fun b o h => hb.frozen (p := ⟨b, o, none⟩) h⟩
/-- Two calls, one behind the other. -/
theorem bthen {a b c : World} (h : Below a.heap.size a b) (k : Below b.heap.size b c) : Below a.heap.size a c := h.trans (k.mono h.size)

/-- A slice of n elements at A reads as l: element i lies in sz cells, which meet E. -/
def Slc {α : Type} (sz : Nat) (E : World → List Value → α → Prop) (w : World) (A : Option Addr) (n : Nat) (l : List α) : Prop :=
  n = l.length ∧ (0 < n → ∃ ad, A = some ad ∧ ad.block < w.heap.size ∧
    ∀ (i : Nat) (h : i < l.length), ∃ cs, cs.length = sz ∧ E w cs l[i] ∧ ∀ j u, cs[j]? = some u → w.cell? (ad.add (i * sz + j)) = some u)

theorem Slc.mono {α : Type} {sz : Nat} {E : World → List Value → α → Prop} {w w' : World} {A : Option Addr} {n : Nat} {l : List α}
    (h : Slc sz E w A n l) (hE : ∀ cs x, E w cs x → E w' cs x) (hb : Below w.heap.size w w') : Slc sz E w' A n l :=
  ⟨h.1, fun hn => by
    obtain ⟨ad, e, hlt, hc⟩ := h.2 hn
    refine ⟨ad, e, Nat.lt_of_lt_of_le hlt hb.size, fun i hi => ?_⟩
    obtain ⟨cs, h1, h2, h3⟩ := hc i hi
    exact ⟨cs, h1, hE _ _ h2, fun j u hu => (hb.cell (by rw [block_of_add]; exact hlt)).trans (h3 j u hu)⟩⟩

/-- one integer cell, one string cell, one byte cell -/
def IntE (_ : World) (cs : List Value) (x : Int) : Prop := cs = [.int .i64 x]
def StrE (_ : World) (cs : List Value) (x : ByteArray) : Prop := cs = [.string x]
def ByteE (_ : World) (cs : List Value) (x : UInt8) : Prop := cs = [.int .u8 x.toNat]
abbrev Ints := Slc 1 IntE
abbrev Strs := Slc 1 StrE
abbrev Bytes := Slc 1 ByteE

section
variable {w w' : World} {A : Option Addr} {n : Nat}
theorem Ints.keep {l : List Int} (h : Ints w A n l) (hb : Below w.heap.size w w') : Ints w' A n l := h.mono (fun _ _ h => h) hb
theorem Strs.keep {l : List ByteArray} (h : Strs w A n l) (hb : Below w.heap.size w w') : Strs w' A n l := h.mono (fun _ _ h => h) hb
theorem Bytes.keep {l : List UInt8} (h : Bytes w A n l) (hb : Below w.heap.size w w') : Bytes w' A n l := h.mono (fun _ _ h => h) hb
theorem Ints.at_ {l : List Int} (h : Ints w A n l) {k : Nat} (hk : k < n) : ∃ ad, A = some ad ∧ ad.block < w.heap.size ∧ w.cell? (ad.add k) = some (.int .i64 (l[k]?.getD 0)) := by
  obtain ⟨ad, e, hlt, hc⟩ := h.2 (by omega)
  have hk' : k < l.length := by have := h.1; omega
  obtain ⟨cs, _, he, hj⟩ := hc k hk'
  refine ⟨ad, e, hlt, ?_⟩
  have h0 : cs = [.int .i64 l[k]] := he
  subst h0
  rw [List.getElem?_eq_getElem hk']
  simpa using hj 0 _ rfl
theorem Ints.nil {c : Option Addr} : Ints w c 0 [] := ⟨rfl, fun h => absurd h (by omega)⟩
end
end Go.Proofs.Ytieokdeiafmcaaa
