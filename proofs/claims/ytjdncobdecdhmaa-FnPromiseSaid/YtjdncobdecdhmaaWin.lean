/-
  Words for memory: what lies in the blocks from B on stays, while earlier blocks are written.
-/
import Derived.Test.YtjdncobdecdhmaaMem
namespace Go.Proofs.Ytjdncobdecdhmaa
open Go.RowKit

structure Win (B : Nat) (w w' : World) : Prop where
  size : w.heap.size ≤ w'.heap.size
  block : ∀ k, B ≤ k → k < w.heap.size → w'.heap[k]? = w.heap[k]?
theorem Win.refl (B : Nat) (w : World) : Win B w w := ⟨Nat.le_refl _, fun _ _ _ => rfl⟩
theorem Win.trans {B : Nat} {a b c : World} (h : Win B a b) (k : Win B b c) : Win B a c :=
  ⟨Nat.le_trans h.size k.size, fun i hi hl => (k.block i hi (Nat.lt_of_lt_of_le hl h.size)).trans (h.block i hi hl)⟩
theorem Win.below {B : Nat} {a w w' : World} (h : Win B a w) (hb : Below w.heap.size w w') : Win B a w' :=
  h.trans ⟨hb.size, fun k _ hk => hb.block k hk⟩
theorem Win.setCell {B : Nat} {a w : World} (h : Win B a w) {p : Addr} (hp : p.block < B) (u : Value) : Win B a (w.setCell p u) :=
  h.trans ⟨by simp [World.setCell], fun k hk _ => Below.heap_setCell _ _ _ _ (by omega)⟩
theorem Win.of {B : Nat} {w w' : World} (hb : Below w.heap.size w w') : Win B w w' := (Win.refl B w).below hb
theorem Win.mono {B B' : Nat} {w w' : World} (h : Win B w w') (hB : B ≤ B') : Win B' w w' := ⟨h.size, fun k hk => h.block k (by omega)⟩
theorem Win.cell {B : Nat} {w w' : World} (h : Win B w w') {p : Addr} (hp : B ≤ p.block) (hl : p.block < w.heap.size) : w'.cell? p = w.cell? p := World.cell?_of_block (w := w) (h.block p.block hp hl)

def From (B : Nat) (A : Option Addr) : Prop := ∀ ad, A = some ad → B ≤ ad.block
theorem From.mono {B B' : Nat} {A : Option Addr} (h : From B A) (hB : B' ≤ B) : From B' A := fun ad e => Nat.le_trans hB (h ad e)
theorem own_from {w : World} {B : Nat} {e : TypeId} {sz n c m : Nat} {A : Option Addr} {xs : List Value} (h : w.ownsRow B e sz (.slice A n c) m xs) : From B A := by
  rcases h.2 with ⟨hv, h0⟩ | ⟨g, cap, cur, hv, hb, hg, hnc, _⟩
  · injection hv with h1 h2 h3
    subst h1
    intro ad e
    cases e
  · injection hv with h1 h2 h3
    subst h1
    intro ad e
    injection e with e
    subst e
    exact hb
theorem Slc.win {α : Type} {sz B : Nat} {E E' : World → List Value → α → Prop} {w w' : World} {A : Option Addr} {n : Nat} {l : List α}
    (h : Slc sz E w A n l) (hf : From B A) (hE : ∀ cs x, E w cs x → E' w' cs x) (hw : Win B w w') : Slc sz E' w' A n l :=
  ⟨h.1, fun hn => by
    obtain ⟨ad, e, hlt, hc⟩ := h.2 hn
    refine ⟨ad, e, Nat.lt_of_lt_of_le hlt hw.size, fun i hi => ?_⟩
    obtain ⟨cs, h1, h2, h3⟩ := hc i hi
    exact ⟨cs, h1, hE _ _ h2, fun j u hu => (hw.cell (by rw [block_of_add]; exact hf ad e) (by rw [block_of_add]; exact hlt)).trans (h3 j u hu)⟩⟩
theorem Ints.win {B : Nat} {w w' : World} {A : Option Addr} {n : Nat} {l : List Int} (h : Ints w A n l) (hf : From B A) (hw : Win B w w') : Ints w' A n l := Slc.win h hf (fun _ _ h => h) hw
theorem Strs.win {B : Nat} {w w' : World} {A : Option Addr} {n : Nat} {l : List ByteArray} (h : Strs w A n l) (hf : From B A) (hw : Win B w w') : Strs w' A n l := Slc.win h hf (fun _ _ h => h) hw
end Go.Proofs.Ytjdncobdecdhmaa
