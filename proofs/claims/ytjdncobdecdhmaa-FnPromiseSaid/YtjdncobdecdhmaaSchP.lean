/-
  Schemas in the making: owned attributes, owned classes, apart. No program is walked here.
-/
import Derived.Test.YtjdncobdecdhmaaSchema4
namespace Go.Proofs.Ytjdncobdecdhmaa
open Go.RowKit
set_option maxRecDepth 100000

theorem Bag.cat2 {B B' N M : Nat} {w : World} {r s : Nat → Row} (h : Bag B N w r) (hs : Bag B' M w s) (hB : B ≤ B') (hlt : ∀ k, has N r k → k < B') : Bag B (N + M) w (rcat N r s) := by
  have h2 := hs.mono hB
  have key : ∀ i j, i < N → j < M → (r i).apart (s j) := by
    intro i j hi hj
    unfold Row.apart
    rcases e1 : (r i).blk with _ | g
    · exact .inl rfl
    · refine .inr fun e => ?_
      have k1 := hlt g ⟨i, hi, e1⟩
      have k2 := ((hs.own j hj).lt g e.symm).1
      omega
  refine ⟨fun i hi => ?_, fun i j hi hj hij => ?_⟩
  · unfold rcat
    split
    · exact h.own i (by omega)
    · exact h2.own (i - N) (by omega)
  · unfold rcat
    split <;> split
    · exact h.sep i j (by omega) (by omega) hij
    · exact key i (j - N) (by omega) (by omega)
    · exact (key j (i - N) (by omega) (by omega)).symm
    · exact hs.sep (i - N) (j - N) (by omega) (by omega) (by omega)
/-- The rows of one attribute. -/
abbrev attrRows (D1 : Option Addr) (n1 m1 : Nat) (D2 : Option Addr) (n2 m2 : Nat) (a : AttrD) : Nat → Row := rpair (intRow D1 n1 m1 a.cuts) (strRow D2 n2 m2 a.vals)
/-- One attribute more at the end of attributes that own themselves. -/
theorem AttrsTo.snoc {B B' : Nat} {w1 w2 : World} {r : Nat → Row} {A D1 D2 : Option Addr} {n c n1 m1 n2 m2 : Nat} {ls : List AttrD} {a : AttrD} {v : Value}
    (h : AttrsTo r A n c ls n) (hb : Bag B (1 + 2 * n) w1 r) (ho : Bag B' 2 w1 (attrRows D1 n1 m1 D2 n2 m2 a)) (hB : B ≤ B') (hlt : ∀ k, has (1 + 2 * n) r k → k < B') (hB2 : B' ≤ w1.heap.size)
    (hv : w2.ownsRow B 73 3 v (n + 1) ((r 0).xs ++ [.string a.name, .slice D1 n1 m1, .slice D2 n2 m2])) (hg : w1.grownBy w2 (Value.ownBlock (.slice A n c)))
    (hnew : ∀ g, v.ownBlock = some g → Value.ownBlock (.slice A n c) = some g ∨ w1.heap.size ≤ g) :
    ∃ A2 c2 r', v = .slice A2 (n + 1) c2 ∧ Bag B (1 + 2 * (n + 1)) w2 r' ∧ AttrsTo r' A2 (n + 1) c2 (ls ++ [a]) (n + 1) ∧ ∀ k, has (1 + 2 * (n + 1)) r' k → has (1 + 2 * n) r k ∨ B' ≤ k := by
  have h1 := hb.cat2 ho hB hlt
  obtain ⟨e1, e2, e3, e4⟩ := h.head
  have hO := h.outer hb (by omega)
  have hxl : (r 0).xs.length = n * 3 := hO.1
  have hln := h.len
  obtain ⟨s, hs⟩ : ∃ s, s = rcat (1 + 2 * n) r (attrRows D1 n1 m1 D2 n2 m2 a) := ⟨_, rfl⟩
  rw [← hs] at h1
  have s0 : s 0 = r 0 := by rw [hs]; unfold rcat; rw [if_pos (by omega)]
  have sold : ∀ i, i < 1 + 2 * n → s i = r i := fun i hi => by rw [hs]; unfold rcat; rw [if_pos hi]
  have sn1 : s (1 + 2 * n) = intRow D1 n1 m1 a.cuts := by rw [hs]; unfold rcat attrRows rpair; rw [if_neg (by omega), if_pos (by omega)]
  have sn2 : s (2 + 2 * n) = strRow D2 n2 m2 a.vals := by rw [hs]; unfold rcat attrRows rpair; rw [if_neg (by omega), if_neg (by omega)]
  obtain ⟨A2, c2, rfl⟩ := own_shape hv
  have hblk : (s 0).blk = Value.ownBlock (.slice A n c) := by rw [s0]; unfold Row.blk; rw [e3]
  obtain ⟨t, ht⟩ : ∃ t : Row, t = ⟨73, 3, .slice A2 (n + 1) c2, n + 1, (r 0).xs ++ [.string a.name, .slice D1 n1 m1, .slice D2 n2 m2]⟩ := ⟨_, rfl⟩
  have hv' : t.own B w2 := by rw [ht]; exact hv
  have h2 := h1.turn (i := 0) (s := t) (by omega) (by rw [hblk]; exact hg) hv' (by rw [hblk, ht]; exact hnew)
  rw [show 1 + 2 * n + 2 = 1 + 2 * (n + 1) by omega] at h2
  refine ⟨A2, c2, _, rfl, h2, ⟨by simp [hln], by rw [rput_same, ht]; exact ⟨rfl, rfl, rfl, rfl⟩, fun i hi => ?_⟩, ?_⟩
  · rw [rput_same, ht, rput_other _ _ (show 1 + 2 * i ≠ 0 by omega), rput_other _ _ (show 2 + 2 * i ≠ 0 by omega)]
    by_cases e : i = n
    · subst e
      have ea : (ls ++ [a])[i]?.getD default = a := by rw [hln, List.getElem?_append_right (Nat.le_refl _), Nat.sub_self]; rfl
      rw [ea]
      refine ⟨D1, n1, m1, D2, n2, m2, ?_, ?_, ?_, sn1, sn2⟩
      · show ((r 0).xs ++ _)[i * 3]? = _
        rw [List.getElem?_append_right (by omega), hxl, Nat.sub_self]; rfl
      · show ((r 0).xs ++ _)[i * 3 + 1]? = _
        rw [List.getElem?_append_right (by omega), hxl, show i * 3 + 1 - i * 3 = 1 by omega]; rfl
      · show ((r 0).xs ++ _)[i * 3 + 2]? = _
        rw [List.getElem?_append_right (by omega), hxl, show i * 3 + 2 - i * 3 = 2 by omega]; rfl
    · obtain ⟨A1, n1', c1, A2', n2', c2', k0, k1, k2, k3, k4⟩ := h.rows i (by omega)
      have ea : (ls ++ [a])[i]?.getD default = ls[i]?.getD default := by rw [List.getElem?_append_left (by omega)]
      rw [ea]
      refine ⟨A1, n1', c1, A2', n2', c2', ?_, ?_, ?_, by rw [sold _ (by omega)]; exact k3, by rw [sold _ (by omega)]; exact k4⟩
      · show ((r 0).xs ++ _)[i * 3]? = _
        rw [List.getElem?_append_left (by omega)]; exact k0
      · show ((r 0).xs ++ _)[i * 3 + 1]? = _
        rw [List.getElem?_append_left (by omega)]; exact k1
      · show ((r 0).xs ++ _)[i * 3 + 2]? = _
        rw [List.getElem?_append_left (by omega)]; exact k2
  · rintro k ⟨i, hi, e⟩
    by_cases q : i = 0
    · subst q
      rw [rput_same, ht] at e
      rcases hnew k e with k1 | k1
      · exact .inl ⟨0, by omega, by rw [← s0, hblk]; exact k1⟩
      · exact .inr (Nat.le_trans hB2 k1)
    · rw [rput_other _ _ q] at e
      by_cases q2 : i < 1 + 2 * n
      · exact .inl ⟨i, q2, by rw [← sold i q2]; exact e⟩
      · rcases (show i = 1 + 2 * n ∨ i = 2 + 2 * n by omega) with rfl | rfl
        · rw [sn1] at e
          exact .inr ((ho.own 0 (by omega)).lt k e).1
        · rw [sn2] at e
          exact .inr ((ho.own 1 (by omega)).lt k e).1
/-- A schema in the making. -/
structure SchP (B : Nat) (w : World) (A : Option Addr) (n c : Nat) (D : Option Addr) (m k : Nat) (r : Nat → Row) (d : SchemaD) : Prop where
  bag : Bag B (1 + 2 * n) w r
  to : AttrsTo r A n c d.attrs n
  cls : w.ownsRow B 9 1 (.slice D m k) m (d.classes.map Value.string)
  sep : ∀ g, Value.ownBlock (.slice D m k) = some g → ¬ has (1 + 2 * n) r g
  b1 : n ≤ 1048576
  b2 : m ≤ 1048576
  s1 : ∀ a ∈ d.attrs, attrSmall a
  s2 : ∀ s ∈ d.classes, s.size ≤ 1048576
section
variable {B : Nat} {w w' : World} {A D : Option Addr} {n c m k : Nat} {r : Nat → Row} {d : SchemaD}
theorem SchP.only {S : Nat → Prop} (h : SchP B w A n c D m k r d) (ho : Only S w w') (hs : ∀ k, S k → k < B) : SchP B w' A n c D m k r d :=
  ⟨h.bag.only ho fun j hj hS => by have := (h.bag.lt hj).1; have := hs j hS; omega, h.to, own_only h.cls ho fun j hj hS => by have := (h.cls.lt j hj).1; have := hs j hS; omega, h.sep, h.b1, h.b2, h.s1, h.s2⟩
theorem SchP.below (h : SchP B w A n c D m k r d) (hb : Below w.heap.size w w') : SchP B w' A n c D m k r d := ⟨h.bag.below hb, h.to, own_below h.cls hb, h.sep, h.b1, h.b2, h.s1, h.s2⟩
theorem SchP.mono {B' : Nat} (h : SchP B w A n c D m k r d) (hB : B' ≤ B) : SchP B' w A n c D m k r d :=
  ⟨h.bag.mono hB, h.to, (by
    have := (Bag.one (s := strRow D m k d.classes) h.cls).mono hB
    exact this.own 0 (by omega)), h.sep, h.b1, h.b2, h.s1, h.s2⟩
theorem SchP.o (h : SchP B w A n c D m k r d) : SchemaO B w.heap.size w (.slice A n c) (.slice D m k) d := by
  have hbag : Bag B (2 + 2 * n) w (rput r (1 + 2 * n) (strRow D m k d.classes)) := by
    have hap : ∀ i, i < 1 + 2 * n → (strRow D m k d.classes).apart (r i) := by
      intro i hi
      unfold Row.apart
      rcases hb : (strRow D m k d.classes).blk with _ | g
      · exact .inl rfl
      · exact .inr fun e => h.sep g hb ⟨i, hi, e.symm⟩
    refine ⟨fun i hi => ?_, fun i j hi hj hij => ?_⟩
    · by_cases e : i = 1 + 2 * n
      · subst e; rw [rput_same]; exact h.cls
      · rw [rput_other _ _ e]; exact h.bag.own i (by omega)
    · by_cases e : i = 1 + 2 * n
      · subst e
        rw [rput_same, rput_other _ _ (Ne.symm hij)]
        exact hap j (by omega)
      · rw [rput_other _ _ e]
        by_cases e2 : j = 1 + 2 * n
        · subst e2
          rw [rput_same]
          exact (hap i (by omega)).symm
        · rw [rput_other _ _ e2]
          exact h.bag.sep i j (by omega) (by omega) hij
  exact ⟨A, n, c, D, m, k, _, rfl, rfl, hbag, rput_same _ _ _, h.to.congr fun i hi => rput_other _ _ (by omega), h.b1, h.b2, h.s1, h.s2, fun k hk => (hbag.lt hk).2⟩
/-- One attribute more. -/
theorem SchP.attr {B' : Nat} {w2 : World} {D1 D2 : Option Addr} {n1 m1 n2 m2 : Nat} {a : AttrD} {v : Value} (h : SchP B w A n c D m k r d)
    (ho : Bag B' 2 w (attrRows D1 n1 m1 D2 n2 m2 a)) (hB : B ≤ B') (hB2 : B' ≤ w.heap.size) (hlt : ∀ j, has (1 + 2 * n) r j → j < B') (hlt2 : ∀ g, Value.ownBlock (.slice D m k) = some g → g < B')
    (hv : w2.ownsRow B 73 3 v (n + 1) ((r 0).xs ++ [.string a.name, .slice D1 n1 m1, .slice D2 n2 m2])) (hg : w.grownBy w2 (Value.ownBlock (.slice A n c)))
    (hnew : ∀ g, v.ownBlock = some g → Value.ownBlock (.slice A n c) = some g ∨ w.heap.size ≤ g) (hn : n + 1 ≤ 1048576) (hs : attrSmall a) :
    ∃ A2 c2 r', v = .slice A2 (n + 1) c2 ∧ SchP B w2 A2 (n + 1) c2 D m k r' ⟨d.attrs ++ [a], d.classes⟩ ∧ ∀ k, has (1 + 2 * (n + 1)) r' k → has (1 + 2 * n) r k ∨ B' ≤ k := by
  obtain ⟨A2, c2, r', rfl, hb, ht, hh⟩ := h.to.snoc h.bag ho hB hlt hB2 hv hg hnew
  refine ⟨A2, c2, r', rfl, ⟨hb, ht, ?_, fun g hg2 hr => ?_, hn, h.b2, fun x hx => ?_, h.s2⟩, hh⟩
  · refine h.cls.kept hg ?_
    rcases hbk : Value.ownBlock (.slice D m k) with _ | g
    · exact .inl rfl
    · refine .inr fun e => h.sep g hbk ⟨0, by omega, ?_⟩
      unfold Row.blk
      rw [h.to.head.2.2.1]
      exact e.symm
  · rcases hh g hr with h1 | h1
    · exact h.sep g hg2 h1
    · have := hlt2 g hg2
      omega
  · simp only [List.mem_append, List.mem_singleton] at hx
    rcases hx with hx | rfl
    · exact h.s1 x hx
    · exact hs
/-- One class more. -/
theorem SchP.word {w2 : World} {s : ByteArray} {v : Value} (h : SchP B w A n c D m k r d)
    (hv : w2.ownsRow B 9 1 v (m + 1) (d.classes.map Value.string ++ [.string s])) (hg : w.grownBy w2 (Value.ownBlock (.slice D m k)))
    (hnew : ∀ g, v.ownBlock = some g → Value.ownBlock (.slice D m k) = some g ∨ w.heap.size ≤ g) (hm : m + 1 ≤ 1048576) (hs : s.size ≤ 1048576) :
    ∃ D2 k2, v = .slice D2 (m + 1) k2 ∧ SchP B w2 A n c D2 (m + 1) k2 r ⟨d.attrs, d.classes ++ [s]⟩ := by
  obtain ⟨D2, k2, rfl⟩ := own_shape hv
  refine ⟨D2, k2, rfl, ⟨fun i hi => ?_, h.bag.sep⟩, h.to, by simpa using hv, fun g hg2 hr => ?_, h.b1, hm, h.s1, fun x hx => ?_⟩
  · refine (h.bag.own i hi).kept hg ?_
    rcases hbk : (r i).blk with _ | g
    · exact .inl hbk
    · exact .inr fun e => h.sep g (e.symm.trans hbk) ⟨i, hi, hbk⟩
  · rcases hnew g hg2 with h1 | h1
    · exact h.sep g h1 hr
    · have := (h.bag.lt hr).2
      omega
  · simp only [List.mem_append, List.mem_singleton] at hx
    rcases hx with hx | rfl
    · exact h.s2 x hx
    · exact hs
/-- The first class alone. -/
theorem SchP.first (h : SchP B w A n c D m k r d) (hm : 1 ≤ m) : SchP B w A n c D 1 k r ⟨d.attrs, d.classes.take 1⟩ := by
  refine ⟨h.bag, h.to, ?_, fun g hg => h.sep g (by cases D <;> exact hg), h.b1, by omega, h.s1, fun s hs => h.s2 s (List.mem_of_mem_take hs)⟩
  obtain ⟨h1, h2⟩ := h.cls
  have hlen : d.classes.length = m := by simpa using h1
  refine ⟨by simp; omega, ?_⟩
  rcases h2 with ⟨-, h0⟩ | ⟨g, cap, cur, e, hb, hgg, hle, hmx, hsz, htk⟩
  · omega
  · injection e with e1 e2 e3
    subst e1 e3
    refine .inr ⟨g, k, cur, rfl, hb, hgg, by omega, hmx, hsz, ?_⟩
    rw [List.map_take, ← htk, List.take_take]
    congr 1
    omega
/-- No attributes: an empty slice of its own. -/
theorem SchP.none_ (h : SchP B w A n c D m k r d) (hB : B ≤ w.heap.size) :
    SchP B (w.alloc (.cells #[] 73)) (some ⟨w.heap.size, 0, none⟩) 0 0 D m k (fun _ => ⟨73, 3, .slice (some ⟨w.heap.size, 0, none⟩) 0 0, 0, []⟩) ⟨[], d.classes⟩ := by
  have ho := own_empty w B 73 3 hB
  refine ⟨Bag.one (s := ⟨73, 3, .slice (some ⟨w.heap.size, 0, none⟩) 0 0, 0, []⟩) ho, ⟨rfl, ⟨rfl, rfl, rfl, rfl⟩, fun i hi => by omega⟩, h.cls.alloc _, fun g hg hr => ?_, by omega, h.b2, by simp, h.s2⟩
  obtain ⟨i, -, e⟩ := hr
  have e2 : some w.heap.size = some g := e
  injection e2 with e2
  have := (h.cls.lt g hg).2
  omega
end
end Go.Proofs.Ytjdncobdecdhmaa
