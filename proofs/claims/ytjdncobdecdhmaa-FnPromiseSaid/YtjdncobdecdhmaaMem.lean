/-
  Words for memory: slices that read as lists. No program is named here.
-/
import Derived.WalkKit
import Derived.WalkSpells
import Derived.WalkLawsBesides
import Derived.Deep.QuietTactic
import Derived.BigQuiet
import Derived.Deep.Draws
import Derived.Deep.AppendLies
import Derived.Maps.AppendAt
namespace Go.Proofs.Ytjdncobdecdhmaa
open Go.RowKit

theorem hide {p : Prop} (h : p) : Hid p := h
theorem block_of_add (a : Addr) (n : Nat) : (a.add n).block = a.block := by unfold Addr.add; split <;> rfl
theorem add_of_add (a : Addr) (i j : Nat) : (a.add i).add j = a.add (i + j) := by
  unfold Addr.add
  by_cases hi : i = 0 <;> by_cases hj : j = 0 <;> simp [hi, hj, Nat.add_assoc]

theorem below_drewN {B : Nat} {a w : World} (h : Below B a w) (n : Nat) : Below B a (w.drewN n) := ⟨h.os, h.tape, h.output, h.size, h.block⟩
theorem bcell {W w1 : World} (hb : Below W.heap.size W w1) :
    (∀ b o, b < W.heap.size → w1.cell? ⟨b, o, none⟩ = W.cell? ⟨b, o, none⟩) ∧ (∀ b o, b < W.heap.size → w1.frozen? ⟨b, o, none⟩ = W.frozen? ⟨b, o, none⟩) :=
  ⟨fun b o h => hb.cell (p := ⟨b, o, none⟩) h, fun b o h => hb.frozen (p := ⟨b, o, none⟩) h⟩
/-- Two calls, one behind the other. -/
theorem bthen {a b c : World} (h : Below a.heap.size a b) (k : Below b.heap.size b c) : Below a.heap.size a c := h.trans (k.mono h.size)

/-- A slice of n elements at A reads as l: element i lies in sz cells, which meet E. -/
def Slc {α : Type} (sz : Nat) (E : World → List Value → α → Prop) (w : World) (A : Option Addr) (n : Nat) (l : List α) : Prop :=
  n = l.length ∧ (0 < n → ∃ ad, A = some ad ∧ ad.block < w.heap.size ∧
    ∀ (i : Nat) (h : i < l.length), ∃ cs, cs.length = sz ∧ E w cs l[i] ∧ ∀ j u, cs[j]? = some u → w.cell? (ad.add (i * sz + j)) = some u)

theorem Slc.mono {α : Type} {sz : Nat} {E : World → List Value → α → Prop} {w w' : World} {A : Option Addr} {n : Nat} {l : List α}
    (h : Slc sz E w A n l) (hE : ∀ cs x, E w cs x → E w' cs x) (hb : Below w.heap.size w w') : Slc sz E w' A n l :=
  ⟨h.1, fun hn => by
    obtain ⟨ad, e, hlt, hc⟩ := h.2 hn
    refine ⟨ad, e, Nat.lt_of_lt_of_le hlt hb.size, fun i hi => ?_⟩
    obtain ⟨cs, h1, h2, h3⟩ := hc i hi
    exact ⟨cs, h1, hE _ _ h2, fun j u hu => (hb.cell (by rw [block_of_add]; exact hlt)).trans (h3 j u hu)⟩⟩

/-- one integer cell, one string cell, one byte cell -/
def IntE (_ : World) (cs : List Value) (x : Int) : Prop := cs = [.int .i64 x]
def StrE (_ : World) (cs : List Value) (x : ByteArray) : Prop := cs = [.string x]
def ByteE (_ : World) (cs : List Value) (x : UInt8) : Prop := cs = [.int .u8 x.toNat]
abbrev Ints := Slc 1 IntE
abbrev Strs := Slc 1 StrE
abbrev Bytes := Slc 1 ByteE

section
variable {w w' : World} {A : Option Addr} {n : Nat}
theorem Ints.keep {l : List Int} (h : Ints w A n l) (hb : Below w.heap.size w w') : Ints w' A n l := h.mono (fun _ _ h => h) hb
theorem Strs.keep {l : List ByteArray} (h : Strs w A n l) (hb : Below w.heap.size w w') : Strs w' A n l := h.mono (fun _ _ h => h) hb
theorem Bytes.keep {l : List UInt8} (h : Bytes w A n l) (hb : Below w.heap.size w w') : Bytes w' A n l := h.mono (fun _ _ h => h) hb
theorem Ints.at_ {l : List Int} (h : Ints w A n l) {k : Nat} (hk : k < n) : ∃ ad, A = some ad ∧ ad.block < w.heap.size ∧ w.cell? (ad.add k) = some (.int .i64 (l[k]?.getD 0)) := by
  obtain ⟨ad, e, hlt, hc⟩ := h.2 (by omega)
  have hk' : k < l.length := by have := h.1; omega
  obtain ⟨cs, _, he, hj⟩ := hc k hk'
  refine ⟨ad, e, hlt, ?_⟩
  have h0 : cs = [.int .i64 l[k]] := he
  subst h0
  rw [List.getElem?_eq_getElem hk']
  simpa using hj 0 _ rfl
theorem Bytes.at_ {l : List UInt8} (h : Bytes w A n l) {k : Nat} (hk : k < n) : ∃ ad, A = some ad ∧ ad.block < w.heap.size ∧ w.cell? (ad.add k) = some (.int .u8 (l[k]?.getD 0).toNat) := by
  obtain ⟨ad, e, hlt, hc⟩ := h.2 (by omega)
  have hk' : k < l.length := by have := h.1; omega
  obtain ⟨cs, _, he, hj⟩ := hc k hk'
  refine ⟨ad, e, hlt, ?_⟩
  have h0 : cs = [.int .u8 l[k].toNat] := he
  subst h0
  rw [List.getElem?_eq_getElem hk']
  simpa using hj 0 _ rfl
theorem Strs.at_ {l : List ByteArray} (h : Strs w A n l) {k : Nat} (hk : k < n) : ∃ ad, A = some ad ∧ ad.block < w.heap.size ∧ w.cell? (ad.add k) = some (.string (l[k]?.getD ByteArray.empty)) := by
  obtain ⟨ad, e, hlt, hc⟩ := h.2 (by omega)
  have hk' : k < l.length := by have := h.1; omega
  obtain ⟨cs, _, he, hj⟩ := hc k hk'
  refine ⟨ad, e, hlt, ?_⟩
  have h0 : cs = [.string l[k]] := he
  subst h0
  rw [List.getElem?_eq_getElem hk']
  simpa using hj 0 _ rfl
theorem Bytes.nil {c : Option Addr} : Bytes w c 0 [] := ⟨rfl, fun h => absurd h (by omega)⟩
theorem Strs.nil {c : Option Addr} : Strs w c 0 [] := ⟨rfl, fun h => absurd h (by omega)⟩
theorem Ints.nil {c : Option Addr} : Ints w c 0 [] := ⟨rfl, fun h => absurd h (by omega)⟩
end

/-- 'out = append(out, x)', x one element that has just been laid in a block of its own. -/
theorem wpList_append_one {P : Program} {ops : Array Oper} {rest : List Oper} {o : Oper} {a : Act} {Q : Exit → Act → World → Prop} {W : World} (w : World) (hgd : o.guard = none) (s x : Operand) (t : TypeId)
    (ho : o.op = .call { callee := .builtin .append, args := #[s, x], argTypes := #[t, t] })
    (base : Nat) (e : TypeId) (z : Value) (size bytes : Nat) (ht : P.underlying t = some (.slice e)) (hi : (P.info? e).map (fun i => (i.zero, i.size, i.bytes)) = some (some z, size, bytes)) (hzs : z.cells.size = size) (hsz : 0 < size)
    (v : Value) (n : Nat) (xs us : List Value) (hs : a.eval s = v) (hown : w.ownsRow base e size v n xs)
    (c : Nat) (hx : a.eval x = .slice (some ⟨w.heap.size, 0, none⟩) 1 c) (hl : us.length = size) (h1 : ∀ u ∈ us, u.oneCell' = true) (hW : W = w.alloc (.cells us.toArray e))
    (h63 : n + 1 ≤ maxLen) (hbytes : (n + 1) * bytes ≤ 140737488355328) (hbase : base ≤ w.heap.size)
    (h : ∀ v' w', w'.ownsRow base e size v' (n + 1) (xs ++ us) → Below base w w' → (∀ g, v'.ownBlock = some g → v.ownBlock = some g ∨ w.heap.size ≤ g) → w.grownBy w' v.ownBlock → wpList P ops Q rest (a.put o.dst v') w') :
    wpList P ops Q (o :: rest) a W := by
  subst hW
  obtain ⟨i0, hi0, hz0, hz1, hz2⟩ := info_parts hi
  obtain ⟨v', w', hr, h2, h3, h4, h5⟩ := run_append_own_at (P := P) (w.alloc (.cells us.toArray e)) base t o.type e i0 z size bytes ht hi0 hz0 hz1 hz2 hzs hsz v n xs (hown.alloc _) ⟨w.heap.size, 0, none⟩ 1 c us (by simpa using hl)
    (fun j u hu => by
      have hadd : (⟨w.heap.size, 0, none⟩ : Addr).add j = ⟨w.heap.size, j, none⟩ := by unfold Addr.add; split <;> simp_all
      rw [hadd, cell_of_row _ w.heap.size j us.toArray e (0, 0) (heap_alloc_new w _)]
      simpa using hu) h1 h63 hbytes (by simp; omega)
  have hg : w.grownBy w' v.ownBlock := ⟨h3.os, h3.tape, h3.output, Nat.le_trans (by simp) h3.size, fun k hk hne => (h3.block k (by simp; omega) hne).trans (Below.heap_alloc w _ k hk)⟩
  refine wpList_plain hgd fun K hK => ?_
  unfold Oper.wp execOp
  simp only [ho, resolve, invoke, builtin, Sem.run_bind, Sem.run_pure, Result.andThen_ok, List.map_toArray, List.map_cons, List.map_nil, hs, hx, hr]
  refine hK _ _ (h v' w' h2 ⟨hg.os, hg.tape, hg.output, hg.size, fun k hk => hg.block k (by omega) (fun e => ?_)⟩ (fun g hgv => ?_) hg)
  · have := (hown.lt k e.symm).1
    omega
  · rcases h5 with h5 | h5
    · exact .inl (h5 ▸ hgv)
    · rw [h5] at hgv
      injection hgv with hgv
      refine .inr ?_
      rw [← hgv]
      simp

theorem own_shape {w : World} {B : Nat} {e : TypeId} {sz n : Nat} {v : Value} {xs : List Value} (h : w.ownsRow B e sz v n xs) : ∃ D m, v = .slice D n m := by
  rcases h.2 with ⟨rfl, rfl⟩ | ⟨g, cap, cur, rfl, _⟩
  · exact ⟨_, _, rfl⟩
  · exact ⟨_, _, rfl⟩
/-- The slice of no element. -/
theorem own_empty (w : World) (B : Nat) (e : TypeId) (sz : Nat) (hb : B ≤ w.heap.size) : (w.alloc (.cells #[] e)).ownsRow B e sz (.slice (some ⟨w.heap.size, 0, none⟩) 0 0) 0 [] :=
  World.ownsRow_lit w #[] 0 hb (by simp [maxLen]) (by simp)

/-- What was owned before lies apart from what is made later. -/
theorem own_apart {w1 w2 : World} {B1 B2 : Nat} {e1 e2 : TypeId} {s1 s2 n1 n2 : Nat} {v1 v2 : Value} {xs1 xs2 : List Value} (h1 : w1.ownsRow B1 e1 s1 v1 n1 xs1) (h2 : w2.ownsRow B2 e2 s2 v2 n2 xs2) (hB : w1.heap.size ≤ B2) :
    v1.ownBlock = none ∨ v1.ownBlock ≠ v2.ownBlock := by
  rcases h : v1.ownBlock with _ | k
  · exact .inl rfl
  · refine .inr fun e => ?_
    have := h1.lt k h
    have := h2.lt k e.symm
    omega
theorem own_below {w w' : World} {B : Nat} {e : TypeId} {sz n : Nat} {v : Value} {xs : List Value} (h : w.ownsRow B e sz v n xs) (hb : Below w.heap.size w w') : w'.ownsRow B e sz v n xs :=
  h.kept (row := none) ⟨hb.os, hb.tape, hb.output, hb.size, fun i hi _ => hb.block i hi⟩ (by cases v.ownBlock <;> simp)
/-- A write to what was made behind w0 leaves w0 as it was. -/
theorem below_only {w0 w w' : World} {B : Nat} {e : TypeId} {sz n : Nat} {v : Value} {xs : List Value} (h : w.ownsRow B e sz v n xs) (hb : Below w0.heap.size w0 w) (hg : w.grownBy w' v.ownBlock) (hB : w0.heap.size ≤ B) : Below w0.heap.size w0 w' :=
  hb.grown hg hb.size fun k hk => Nat.le_trans hB (h.lt k hk).1

/-- A cell held while memory grows: for regions that draw and hold calls. -/
theorem keep_below {w W W1 : World} {a : Addr} {v : Value} (hb : Below W.heap.size W W1) (h : W.cell? a = some v ∧ a.block < W.heap.size ∧ Below w.heap.size w W) : W1.cell? a = some v ∧ a.block < W1.heap.size ∧ Below w.heap.size w W1 :=
  ⟨(hb.cell h.2.1).trans h.1, Nat.lt_of_lt_of_le h.2.1 hb.size, h.2.2.trans (hb.mono h.2.2.size)⟩
theorem keep_drew {w W : World} {a : Addr} {v : Value} (h : W.cell? a = some v ∧ a.block < W.heap.size ∧ Below w.heap.size w W) : W.drew.cell? a = some v ∧ a.block < W.drew.heap.size ∧ Below w.heap.size w W.drew :=
  ⟨h.1, h.2.1, h.2.2.drew⟩

/-- The first k elements of a slice. -/
theorem slc_take {α : Type} {sz : Nat} {E : World → List Value → α → Prop} {w : World} {A : Option Addr} {n k : Nat} {l : List α} (h : Slc sz E w A n l) (hk : k ≤ n) : Slc sz E w A k (l.take k) :=
  ⟨by have := h.1; simp; omega, fun hk0 => by
    obtain ⟨ad, e, hlt, hc⟩ := h.2 (by omega)
    refine ⟨ad, e, hlt, fun i hi => ?_⟩
    have hi' : i < l.length := by simp at hi; omega
    obtain ⟨cs, h1, h2, h3⟩ := hc i hi'
    exact ⟨cs, h1, by simpa using h2, h3⟩⟩
end Go.Proofs.Ytjdncobdecdhmaa
