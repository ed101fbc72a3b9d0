/-
  Statistics in the making: owned totals, owned rows of cells, apart; what a walk that makes statistics holds. No function is walked here.
-/
import Derived.Test.YtjdncobdecdhmaaMarkS
import Derived.Test.YtjdncobdecdhmaaDrawState
import Derived.Test.YtjdncobdecdhmaaEState
namespace Go.Proofs.Ytjdncobdecdhmaa
open Go.RowKit
set_option maxRecDepth 100000

/-- One row more at the end of rows that own themselves; what blocks it has. -/
theorem RowsTo.snoc2 {B : Nat} {w w1 w2 : World} {r : Nat → Row} {A D : Option Addr} {n c n' m' : Nat} {ls : List (List Int)} {l : List Int} {v : Value}
    (h : RowsTo r A n c ls n) (hb : Bag B (1 + n) w r) (ho : w1.ownsRow w.heap.size 3 1 (.slice D n' m') n' (l.map (Value.int .i64))) (hw : Below w.heap.size w w1) (hB : B ≤ w.heap.size)
    (hv : w2.ownsRow B 28 1 v (n + 1) ((r 0).xs ++ [.slice D n' m'])) (hg : w1.grownBy w2 (Value.ownBlock (.slice A n c))) (hnew : ∀ g, v.ownBlock = some g → Value.ownBlock (.slice A n c) = some g ∨ w1.heap.size ≤ g) :
    ∃ A2 c2 r', v = .slice A2 (n + 1) c2 ∧ Bag B (1 + (n + 1)) w2 r' ∧ RowsTo r' A2 (n + 1) c2 (ls ++ [l]) (n + 1) ∧ ∀ j, has (1 + (n + 1)) r' j → has (1 + n) r j ∨ w.heap.size ≤ j := by
  have h1 : Bag B (1 + n + 1) w1 (rput r (1 + n) (intRow D n' m' l)) := by
    refine hb.snoc hw ?_ fun g' hg' => (ho.lt g' hg').1
    have := Bag.mono (Bag.one (s := intRow D n' m' l) ho) hB
    exact this.own 0 (by omega)
  have hO := h.outer hb (by omega)
  have e0 : rput r (1 + n) (intRow D n' m' l) 0 = r 0 := rput_other _ _ (by omega)
  obtain ⟨A2, c2, rfl⟩ := own_shape hv
  refine ⟨A2, c2, rput (rput r (1 + n) (intRow D n' m' l)) 0 ⟨28, 1, .slice A2 (n + 1) c2, n + 1, (r 0).xs ++ [.slice D n' m']⟩, rfl, ?_, ?_, ?_⟩
  · refine h1.turn (i := 0) (by omega) ?_ hv ?_
    · rw [e0, h.blk]; exact hg
    · rw [e0, h.blk]; exact hnew
  · have hxl : (r 0).xs.length = n := by have := hO.1; omega
    have hln := h.len
    refine ⟨by simp [hln], ?_, fun i hi => ?_⟩
    · rw [rput_same]; exact ⟨rfl, rfl, rfl, rfl⟩
    · rw [rput_same, rput_other _ _ (show i + 1 ≠ 0 by omega)]
      by_cases e : i = n
      · subst e
        rw [show i + 1 = 1 + i by omega, rput_same]
        refine ⟨D, n', m', by rw [List.getElem?_append_right (by omega), hxl, Nat.sub_self]; rfl, ?_⟩
        rw [List.getElem?_append_right (by omega), ← hln, Nat.sub_self]; rfl
      · obtain ⟨A', n'', c', k1, k2⟩ := h.rows i (by omega)
        rw [rput_other _ _ (by omega)]
        refine ⟨A', n'', c', by rw [List.getElem?_append_left (by omega)]; exact k1, ?_⟩
        rw [k2, List.getElem?_append_left (by omega)]
  · rintro j ⟨i, hi, e⟩
    by_cases q : i = 0
    · subst q
      rw [rput_same] at e
      rcases hnew j e with k1 | k1
      · exact .inl ⟨0, by omega, by rw [h.blk]; exact k1⟩
      · exact .inr (Nat.le_trans hw.size k1)
    · rw [rput_other _ _ q] at e
      by_cases q2 : i = 1 + n
      · subst q2
        rw [rput_same] at e
        exact .inr (ho.lt j e).1
      · rw [rput_other _ _ q2] at e
        exact .inl ⟨i, by omega, e⟩
/-- Statistics in the making. -/
structure StP (B : Nat) (w : World) (T : Option Addr) (n c : Nat) (D : Option Addr) (m k : Nat) (r : Nat → Row) (d : StatsD) : Prop where
  tot : w.ownsRow B 3 1 (.slice T n c) n (d.totals.map (Value.int .i64))
  bag : Bag B (1 + m) w r
  to : RowsTo r D m k d.cells m
  sep : ∀ g, Value.ownBlock (.slice T n c) = some g → ¬ has (1 + m) r g
  b1 : n ≤ 1048576
  b2 : m ≤ 1048576
  b3 : ∀ l ∈ d.cells, l.length ≤ 1048576
section
variable {B : Nat} {w w' : World} {T D : Option Addr} {n c m k : Nat} {r : Nat → Row} {d : StatsD}
theorem StP.only {S : Nat → Prop} (h : StP B w T n c D m k r d) (ho : Only S w w') (h1 : ∀ j, Value.ownBlock (.slice T n c) = some j → ¬ S j) (h2 : ∀ j, has (1 + m) r j → ¬ S j) : StP B w' T n c D m k r d :=
  ⟨own_only h.tot ho h1, h.bag.only ho h2, h.to, h.sep, h.b1, h.b2, h.b3⟩
theorem StP.below (h : StP B w T n c D m k r d) (hb : Below w.heap.size w w') : StP B w' T n c D m k r d := ⟨own_below h.tot hb, h.bag.below hb, h.to, h.sep, h.b1, h.b2, h.b3⟩
theorem StP.mono {B' : Nat} (h : StP B w T n c D m k r d) (hB : B' ≤ B) : StP B' w T n c D m k r d := ⟨own_lower h.tot hB, h.bag.mono hB, h.to, h.sep, h.b1, h.b2, h.b3⟩
theorem StP.len (h : StP B w T n c D m k r d) : n = d.totals.length ∧ m = d.cells.length := ⟨(ints_of h.tot).1, h.to.len⟩
theorem StP.o (h : StP B w T n c D m k r d) : StatsO B w.heap.size w (.slice T n c) (.slice D m k) d := by
  have hap : ∀ i, i < 1 + m → (intRow T n c d.totals).apart (r i) := by
    intro i hi
    unfold Row.apart
    rcases hb : (intRow T n c d.totals).blk with _ | g
    · exact .inl rfl
    · exact .inr fun e => h.sep g hb ⟨i, hi, e.symm⟩
  have hbag : Bag B (2 + m) w (rcat 1 (fun _ => intRow T n c d.totals) r) := by
    refine ⟨fun i hi => ?_, fun i j hi hj hij => ?_⟩
    · unfold rcat
      split
      · exact h.tot
      · exact h.bag.own (i - 1) (by omega)
    · unfold rcat
      split <;> split
      · omega
      · exact hap (j - 1) (by omega)
      · exact (hap (i - 1) (by omega)).symm
      · exact h.bag.sep (i - 1) (j - 1) (by omega) (by omega) (by omega)
  refine ⟨T, n, c, D, m, k, rcat 1 (fun _ => intRow T n c d.totals) r, rfl, rfl, hbag, by simp [rcat], ?_, h.b1, h.b2, h.b3, fun k hk => (hbag.lt hk).2⟩
  have e : (fun i => rcat 1 (fun _ => intRow T n c d.totals) r (i + 1)) = r := by funext i; simp [rcat]
  rw [e]
  exact h.to
theorem StatsO.p {H : Nat} {x0 x1 : Value} (h : StatsO B H w x0 x1 d) : ∃ T n c D m k r, x0 = .slice T n c ∧ x1 = .slice D m k ∧ StP B w T n c D m k r d ∧ (∀ j, Value.ownBlock (.slice T n c) = some j → B ≤ j ∧ j < H) ∧ ∀ j, has (1 + m) r j → B ≤ j ∧ j < H := by
  obtain ⟨A, n, c, D, m, k, r, h1, h2, hb, h0, hr, hn, hm, hs, hH⟩ := h
  have hown : w.ownsRow B 3 1 (.slice A n c) n (d.totals.map (Value.int .i64)) := by
    have := hb.own 0 (by omega)
    rw [h0] at this
    exact this
  have hbk : ∀ j, Value.ownBlock (.slice A n c) = some j → (r 0).blk = some j := fun j hj => by rw [h0]; exact hj
  refine ⟨A, n, c, D, m, k, fun i => r (i + 1), h1, h2, ⟨hown, (hb.shift (o := 1) (M := 1 + m) (by omega)).congr fun i _ => by rw [Nat.add_comm], hr, fun g hg hr2 => ?_, hn, hm, hs⟩, fun j hj => ?_, fun j hj => ?_⟩
  · obtain ⟨i, hi, e⟩ := hr2
    rcases hb.sep 0 (i + 1) (by omega) (by omega) (by omega) with q | q
    · rw [hbk g hg] at q; cases q
    · exact q ((hbk g hg).trans e.symm)
  · exact ⟨(hown.lt j hj).1, hH j ⟨0, by omega, hbk j hj⟩⟩
  · obtain ⟨i, hi, e⟩ := hj
    have hh : has (2 + m) r j := ⟨i + 1, by omega, e⟩
    exact ⟨(hb.lt hh).1, hH j hh⟩
/-- One total written. -/
theorem StP.setTot {g i : Nat} {u : Int} (h : StP B w T n c D m k r d) (hT : T = some ⟨g, 0, none⟩) : StP B (w.setCell ⟨g, i, none⟩ (.int .i64 u)) T n c D m k r ⟨d.totals.set i u, d.cells⟩ := by
  subst hT
  have hst := (h.tot.stored i (.int .i64 u)).1
  rw [← List.map_set] at hst
  have hs := (Only.refl (fun j => g = j) w).setCell (p := ⟨g, i, none⟩) rfl (.int .i64 u)
  exact ⟨hst, h.bag.only hs (fun j hj e => h.sep j (by rw [← e]; rfl) hj), h.to, h.sep, h.b1, h.b2, h.b3⟩
/-- One total more. -/
theorem StP.addTot {w2 : World} {u : Int} {T2 : Option Addr} {c2 : Nat} (h : StP B w T n c D m k r d) (hv : w2.ownsRow B 3 1 (.slice T2 (n + 1) c2) (n + 1) (d.totals.map (Value.int .i64) ++ [.int .i64 u])) (hg : w.grownBy w2 (Value.ownBlock (.slice T n c)))
    (hnew : ∀ g, Value.ownBlock (.slice T2 (n + 1) c2) = some g → Value.ownBlock (.slice T n c) = some g ∨ w.heap.size ≤ g) (hn : n + 1 ≤ 1048576) : StP B w2 T2 (n + 1) c2 D m k r ⟨d.totals ++ [u], d.cells⟩ := by
  refine ⟨by simpa using hv, ⟨fun i hi => ?_, h.bag.sep⟩, h.to, fun g hg2 hr => ?_, hn, h.b2, h.b3⟩
  · refine (h.bag.own i hi).kept hg ?_
    rcases hbk : (r i).blk with _ | g
    · exact .inl hbk
    · exact .inr fun e => h.sep g (e.symm.trans hbk) ⟨i, hi, hbk⟩
  · rcases hnew g hg2 with h1 | h1
    · exact h.sep g h1 hr
    · have := (h.bag.lt hr).2
      omega
/-- A row turned: written in place. -/
theorem StP.setRow {w2 : World} {i : Nat} {x : List Int} {A' : Option Addr} {n' c' : Nat} (h : StP B w T n c D m k r d) (hi : i < m) (hr : r (i + 1) = intRow A' n' c' (d.cells[i]?.getD []))
    (ho : w2.ownsRow B 3 1 (.slice A' n' c') n' (x.map (Value.int .i64))) (hg : w.grownBy w2 (Value.ownBlock (.slice A' n' c'))) (hx : x.length ≤ 1048576) :
    ∃ r', StP B w2 T n c D m k r' ⟨d.totals, d.cells.set i x⟩ ∧ ∀ j, has (1 + m) r' j ↔ has (1 + m) r j := by
  obtain ⟨hb, ht⟩ := h.to.mark h.bag hi (by omega) hr ho hg
  have hh : ∀ j, has (1 + m) (rput r (i + 1) (intRow A' n' c' x)) j ↔ has (1 + m) r j := fun j => has_rput (by rw [hr]; rfl)
  refine ⟨_, ⟨?_, hb, ht, fun g hg2 hr2 => h.sep g hg2 ((hh g).1 hr2), h.b1, h.b2, fun l hl => ?_⟩, hh⟩
  · refine h.tot.kept hg ?_
    rcases hbk : Value.ownBlock (.slice T n c) with _ | g
    · exact .inl rfl
    · refine .inr fun e => h.sep g hbk ⟨i + 1, by omega, ?_⟩
      rw [hr]
      exact e.symm
  · rcases List.mem_or_eq_of_mem_set hl with q | q
    · exact h.b3 l q
    · rw [q]; exact hx
/-- The row i, read. -/
theorem StP.row (h : StP B w T n c D m k r d) {i : Nat} (hi : i < m) : ∃ g A' n' c', D = some ⟨g, 0, none⟩ ∧ w.cell? ⟨g, i, none⟩ = some (.slice A' n' c') ∧ w.frozen? ⟨g, i, none⟩ = false ∧ r (i + 1) = intRow A' n' c' (d.cells[i]?.getD []) ∧
    w.ownsRow B 3 1 (.slice A' n' c') n' ((d.cells[i]?.getD []).map (Value.int .i64)) ∧ n' = (d.cells[i]?.getD []).length ∧ g < w.heap.size := by
  obtain ⟨A', n', c', q1, q2⟩ := h.to.rows i hi
  have hO := h.to.outer h.bag (by omega)
  obtain ⟨g, rfl, hg1, hg2⟩ := own_form hO (by omega)
  have hro := h.bag.rowOf (show i + 1 < 1 + m by omega) q2
  exact ⟨g, A', n', c', rfl, (hO.cellAt i (by omega)).trans q1, hO.frozenAt i, q2, hro, (ints_of hro).1, hg2⟩
/-- One cell of the cells written. -/
theorem StP.setCell {g i j : Nat} {u : Int} {n' c' : Nat} (h : StP B w T n c D m k r d) (hi : i < m) (hr : r (i + 1) = intRow (some ⟨g, 0, none⟩) n' c' (d.cells[i]?.getD []))
    (ho : w.ownsRow B 3 1 (.slice (some ⟨g, 0, none⟩) n' c') n' ((d.cells[i]?.getD []).map (Value.int .i64))) (hl : n' ≤ 1048576) :
    ∃ r', StP B (w.setCell ⟨g, j, none⟩ (.int .i64 u)) T n c D m k r' ⟨d.totals, d.cells.set i ((d.cells[i]?.getD []).set j u)⟩ ∧ ∀ j, has (1 + m) r' j ↔ has (1 + m) r j := by
  have hst := ho.stored j (.int .i64 u)
  rw [← List.map_set] at hst
  exact h.setRow hi hr hst.1 hst.2 (by rw [List.length_set]; have := (ints_of ho).1; omega)
/-- A row laid anew, its slice not yet written into the outer row: then written. -/
theorem StP.newRow {w2 : World} {i : Nat} {x : List Int} {A' A2 : Option Addr} {n' c' n2 c2 gD : Nat} (h : StP B w T n c D m k r d) (hi : i < m) (hD : D = some ⟨gD, 0, none⟩) (hr : r (i + 1) = intRow A' n' c' (d.cells[i]?.getD []))
    (ho : w2.ownsRow B 3 1 (.slice A2 n2 c2) n2 (x.map (Value.int .i64))) (hg : w.grownBy w2 (Value.ownBlock (.slice A' n' c'))) (hnew : ∀ g, Value.ownBlock (.slice A2 n2 c2) = some g → Value.ownBlock (.slice A' n' c') = some g ∨ w.heap.size ≤ g)
    (hx : x.length ≤ 1048576) :
    ∃ r', StP B (w2.setCell ⟨gD, i, none⟩ (.slice A2 n2 c2)) T n c D m k r' ⟨d.totals, d.cells.set i x⟩ ∧ ∀ j, has (1 + m) r' j → has (1 + m) r j ∨ w.heap.size ≤ j := by
  subst hD
  obtain ⟨e1, e2, e3, e4⟩ := h.to.head
  have b1 := h.bag.turn (i := i + 1) (s := intRow A2 n2 c2 x) (by omega) (by rw [hr]; exact hg) ho (fun g hgg => by rw [hr]; exact hnew g hgg)
  have z0 : rput r (i + 1) (intRow A2 n2 c2 x) 0 = r 0 := rput_other _ _ (by omega)
  have b2 := b1.poke (i := 0) (g := gD) (c := k) (by omega) (by rw [z0, e3, e4]) i (.slice A2 n2 c2)
  rw [z0] at b2
  have hxl : (r 0).xs.length = m := by have := (h.to.outer h.bag (by omega)).1; omega
  have hh : ∀ j, has (1 + m) (rput (rput r (i + 1) (intRow A2 n2 c2 x)) 0 ⟨(r 0).ty, (r 0).sz, (r 0).val, (r 0).len, (r 0).xs.set i (.slice A2 n2 c2)⟩) j → has (1 + m) r j ∨ w.heap.size ≤ j := by
    intro j hj
    have hj2 := (has_rput (s := ⟨(r 0).ty, (r 0).sz, (r 0).val, (r 0).len, (r 0).xs.set i (.slice A2 n2 c2)⟩) (by rw [z0]; rfl)).1 hj
    obtain ⟨q, hq, e⟩ := hj2
    by_cases eq : q = i + 1
    · subst eq
      rw [rput_same] at e
      rcases hnew j e with p | p
      · exact .inl ⟨i + 1, hq, by rw [hr]; exact p⟩
      · exact .inr p
    · rw [rput_other _ _ eq] at e
      exact .inl ⟨q, hq, e⟩
  have hs := (Only.refl (fun j => gD = j) w2).setCell (p := ⟨gD, i, none⟩) rfl (.slice A2 n2 c2)
  have hgD : has (1 + m) r gD := ⟨0, by omega, by unfold Row.blk; rw [e3]; rfl⟩
  refine ⟨_, ⟨?_, b2, ⟨by simpa using h.to.len, by rw [rput_same]; exact ⟨e1, e2, e3, e4⟩, fun q hq => ?_⟩, fun g hg2 hr2 => ?_, h.b1, h.b2, fun l hl => ?_⟩, hh⟩
  · refine own_only (h.tot.kept hg ?_) hs (fun j hj e => h.sep j hj (e ▸ hgD))
    rcases hbk : Value.ownBlock (.slice T n c) with _ | g
    · exact .inl rfl
    · refine .inr fun e => h.sep g hbk ⟨i + 1, by omega, ?_⟩
      rw [hr]
      exact e.symm
  · rw [rput_same, rput_other _ _ (show q + 1 ≠ 0 by omega)]
    by_cases e : q = i
    · subst e
      rw [rput_same]
      exact ⟨A2, n2, c2, by show ((r 0).xs.set q _)[q]? = _; rw [List.getElem?_set_self (by omega)], by rw [List.getElem?_set_self (by have := h.to.len; omega)]; rfl⟩
    · obtain ⟨A3, n3, c3, k1, k2⟩ := h.to.rows q hq
      rw [rput_other _ _ (by omega)]
      exact ⟨A3, n3, c3, by show ((r 0).xs.set i _)[q]? = _; rw [List.getElem?_set_ne (by omega)]; exact k1, by show r (q + 1) = intRow A3 n3 c3 ((d.cells.set i x)[q]?.getD []); rw [List.getElem?_set_ne (by omega)]; exact k2⟩
  · rcases hh g hr2 with p | p
    · exact h.sep g hg2 p
    · have := (h.tot.lt g hg2).2
      omega
  · rcases List.mem_or_eq_of_mem_set hl with q | q
    · exact h.b3 l q
    · rw [q]; exact hx
end

/-- The result's box r, the statistics' box x; what lies below w stays but for S, whose blocks are cursors. -/
structure VState (w : World) (S : Nat → Prop) (r x : Nat) (W : World) (T : Option Addr) (n c : Nat) (D : Option Addr) (m k : Nat) (rr : Nat → Row) (d : StatsD) : Prop where
  ord : w.heap.size ≤ r ∧ w.heap.size ≤ x ∧ r ≠ x
  low : ∀ j, S j → j < w.heap.size
  res : BoxW W r (.slice none 0 0) (.slice none 0 0)
  box : BoxW W x (.slice T n c) (.slice D m k)
  st : StP w.heap.size W T n c D m k rr d
  ap1 : ∀ j, Value.ownBlock (.slice T n c) = some j → j ≠ x ∧ j ≠ r
  ap2 : ∀ j, has (1 + m) rr j → j ≠ x ∧ j ≠ r
  cur : ∀ j, S j → Cur W j
  only : Only S w W
section
variable {w W W2 : World} {S : Nat → Prop} {r x : Nat} {T D : Option Addr} {n c m k : Nat} {rr : Nat → Row} {d : StatsD}
theorem VState.draw (h : VState w S r x W T n c D m k rr d) (hC : ∀ j, S j → Cur W2 j) (ho : Only S W W2) : VState w S r x W2 T n c D m k rr d := by
  have ho' := h.ord
  exact ⟨h.ord, h.low, h.res.only ho (fun e => by have := h.low _ e; omega), h.box.only ho (fun e => by have := h.low _ e; omega),
    h.st.only ho (fun j hj e => by have := h.low _ e; have := (h.st.tot.lt j hj).1; omega) (fun j hj e => by have := h.low _ e; have := (h.st.bag.lt hj).1; omega), h.ap1, h.ap2, hC, h.only.trans ho⟩
theorem VState.keep (h : VState w S r x W T n c D m k rr d) (hb : Below W.heap.size W W2) : VState w S r x W2 T n c D m k rr d :=
  ⟨h.ord, h.low, h.res.keep hb, h.box.keep hb, h.st.below hb, h.ap1, h.ap2, fun j hj => (h.cur j hj).keep hb, h.only.trans (Only.of_below hb)⟩
/-- Rows written or laid anew, the box as it was. -/
theorem VState.turn {w9 : World} {row : Nat} {rr' : Nat → Row} {d' : StatsD} (h : VState w S r x W T n c D m k rr d) (hrow : w.heap.size ≤ row ∧ row ≠ x ∧ row ≠ r) (hg : Only (fun j => row = j) W w9)
    (hst : StP w.heap.size w9 T n c D m k rr' d') (hap2 : ∀ j, has (1 + m) rr' j → j ≠ x ∧ j ≠ r) : VState w S r x w9 T n c D m k rr' d' := by
  have hlow : Below w.heap.size W w9 := Only.below (Below.refl _ _) h.only.size hg (fun j e => by subst e; exact hrow.1)
  exact ⟨h.ord, h.low, h.res.only hg hrow.2.2, h.box.only hg hrow.2.1, hst, h.ap1, hap2, fun j hj => Cur.low (h.cur j hj) (h.low j hj) hlow, h.only.low hlow⟩
/-- One total written. -/
theorem VState.setTot {g i : Nat} {u : Int} (h : VState w S r x W T n c D m k rr d) (hT : T = some ⟨g, 0, none⟩) : VState w S r x (W.setCell ⟨g, i, none⟩ (.int .i64 u)) T n c D m k rr ⟨d.totals.set i u, d.cells⟩ := by
  have hb : Value.ownBlock (.slice T n c) = some g := by rw [hT]; rfl
  exact h.turn ⟨(h.st.tot.lt g hb).1, (h.ap1 g hb).1, (h.ap1 g hb).2⟩ ((Only.refl _ W).setCell (p := ⟨g, i, none⟩) rfl _) (h.st.setTot hT) h.ap2
/-- One cell of the cells written. -/
theorem VState.setCell {g i j : Nat} {u : Int} {n' c' : Nat} (h : VState w S r x W T n c D m k rr d) (hi : i < m) (hr : rr (i + 1) = intRow (some ⟨g, 0, none⟩) n' c' (d.cells[i]?.getD []))
    (ho : W.ownsRow w.heap.size 3 1 (.slice (some ⟨g, 0, none⟩) n' c') n' ((d.cells[i]?.getD []).map (Value.int .i64))) (hl : n' ≤ 1048576) :
    ∃ rr', VState w S r x (W.setCell ⟨g, j, none⟩ (.int .i64 u)) T n c D m k rr' ⟨d.totals, d.cells.set i ((d.cells[i]?.getD []).set j u)⟩ := by
  obtain ⟨rr', hst, hh⟩ := h.st.setCell (j := j) (u := u) hi hr ho hl
  have hg : has (1 + m) rr g := ⟨i + 1, by omega, by rw [hr]; rfl⟩
  exact ⟨rr', h.turn ⟨(h.st.bag.lt hg).1, (h.ap2 g hg).1, (h.ap2 g hg).2⟩ ((Only.refl _ W).setCell (p := ⟨g, j, none⟩) rfl _) hst fun q hq => h.ap2 q ((hh q).1 hq)⟩
theorem VState.blk0 (h : VState w S r x W T n c D m k rr d) {j : Nat} (hj : Value.ownBlock (.slice D m k) = some j) : has (1 + m) rr j := ⟨0, by omega, by rw [h.st.to.blk]; exact hj⟩
theorem VState.outer (h : VState w S r x W T n c D m k rr d) : W.ownsRow w.heap.size 28 1 (.slice D m k) m (rr 0).xs := h.st.to.outer h.st.bag (by omega)
/-- What stays when the outer row of the cells is written or laid anew. -/
theorem VState.turn1 {w9 : World} (h : VState w S r x W T n c D m k rr d) (hb : Below w.heap.size W w9) (hg : W.grownBy w9 (Value.ownBlock (.slice D m k))) :
    BoxW w9 r (.slice none 0 0) (.slice none 0 0) ∧ BoxW w9 x (.slice T n c) (.slice D m k) ∧ Only S w w9 ∧ ∀ j, S j → Cur w9 j := by
  have hs : Only (fun j => Value.ownBlock (.slice D m k) = some j) W w9 := Only.of_grown hg fun k hk => hk
  exact ⟨h.res.only hs (fun e => (h.ap2 _ (h.blk0 e)).2 rfl), h.box.only hs (fun e => (h.ap2 _ (h.blk0 e)).1 rfl), h.only.low hb, fun j hj => Cur.low (h.cur j hj) (h.low j hj) hb⟩
/-- What stays when the totals' row is written or laid anew. -/
theorem VState.turn0 {w9 : World} (h : VState w S r x W T n c D m k rr d) (hb : Below w.heap.size W w9) (hg : W.grownBy w9 (Value.ownBlock (.slice T n c))) :
    BoxW w9 r (.slice none 0 0) (.slice none 0 0) ∧ BoxW w9 x (.slice T n c) (.slice D m k) ∧ Only S w w9 ∧ ∀ j, S j → Cur w9 j := by
  have hs : Only (fun j => Value.ownBlock (.slice T n c) = some j) W w9 := Only.of_grown hg fun k hk => hk
  exact ⟨h.res.only hs (fun e => (h.ap1 _ e).2 rfl), h.box.only hs (fun e => (h.ap1 _ e).1 rfl), h.only.low hb, fun j hj => Cur.low (h.cur j hj) (h.low j hj) hb⟩
/-- One row of cells more. -/
theorem VState.addRow {w1 w9 : World} {A' : Option Addr} {n' c' : Nat} {l : List Int} {v : Value} (h0 : VState w S r x W T n c D m k rr d) (hb1 : Below W.heap.size W w1)
    (ho : w1.ownsRow W.heap.size 3 1 (.slice A' n' c') n' (l.map (Value.int .i64)))
    (hv : w9.ownsRow w.heap.size 28 1 v (m + 1) ((rr 0).xs ++ [.slice A' n' c'])) (hb : Below w.heap.size w1 w9) (hg : w1.grownBy w9 (Value.ownBlock (.slice D m k)))
    (hnew : ∀ g, v.ownBlock = some g → Value.ownBlock (.slice D m k) = some g ∨ w1.heap.size ≤ g) (hm : m + 1 ≤ 1048576) (hl : l.length ≤ 1048576) :
    ∃ D2 k2 rr', v = .slice D2 (m + 1) k2 ∧ VState w S r x (w9.setCell ⟨x, 1, none⟩ v) T n c D2 (m + 1) k2 rr' ⟨d.totals, d.cells ++ [l]⟩ := by
  have h := h0.keep hb1
  obtain ⟨D2, k2, rr', rfl, hbag, hto, hh⟩ := h0.st.to.snoc2 h0.st.bag ho hb1 h0.only.size hv hg hnew
  obtain ⟨t1, t2, t3, t4⟩ := h.turn1 hb hg
  have ho' := h.ord
  have hx := h0.box.lt
  have hr := h0.res.lt
  have hs := (Only.refl (fun j => x = j) w9).setCell (p := ⟨x, 1, none⟩) rfl (.slice D2 (m + 1) k2)
  have hlow : Below w.heap.size w9 (w9.setCell ⟨x, 1, none⟩ (.slice D2 (m + 1) k2)) := (Below.refl _ _).setCell (p := ⟨x, 1, none⟩) ho'.2.1 _
  have hap2 : ∀ j, has (1 + (m + 1)) rr' j → j ≠ x ∧ j ≠ r := fun j hj => by
    rcases hh j hj with q | q
    · exact h0.ap2 j q
    · omega
  have hst : StP w.heap.size w9 T n c D2 (m + 1) k2 rr' ⟨d.totals, d.cells ++ [l]⟩ := by
    refine ⟨h.st.tot.kept hg ?_, hbag, hto, fun g hg2 hr2 => ?_, h.st.b1, hm, fun q hq => ?_⟩
    · rcases hbk : Value.ownBlock (.slice T n c) with _ | g
      · exact .inl rfl
      · exact .inr fun e => h.st.sep g hbk (h.blk0 e.symm)
    · rcases hh g hr2 with p | p
      · exact h.st.sep g hg2 p
      · have := (h0.st.tot.lt g hg2).2
        omega
    · rcases List.mem_append.1 hq with e | e
      · exact h.st.b3 q e
      · simp at e; subst e; exact hl
  exact ⟨D2, k2, rr', rfl, h.ord, h.low, t1.only hs (by show ¬ x = r; omega), t2.set1 _, hst.only hs (fun j hj e => (h.ap1 j hj).1 e.symm) (fun j hj e => (hap2 j hj).1 e.symm), h.ap1, hap2, fun j hj => Cur.low (t4 j hj) (h.low j hj) hlow, t3.low hlow⟩
/-- One total more. -/
theorem VState.addTot {w9 : World} {u : Int} {T2 : Option Addr} {c2 : Nat} (h : VState w S r x W T n c D m k rr d) (hv : w9.ownsRow w.heap.size 3 1 (.slice T2 (n + 1) c2) (n + 1) (d.totals.map (Value.int .i64) ++ [.int .i64 u]))
    (hb : Below w.heap.size W w9) (hg : W.grownBy w9 (Value.ownBlock (.slice T n c))) (hnew : ∀ g, Value.ownBlock (.slice T2 (n + 1) c2) = some g → Value.ownBlock (.slice T n c) = some g ∨ W.heap.size ≤ g) (hn : n + 1 ≤ 1048576) :
    VState w S r x (w9.setCell ⟨x, 0, none⟩ (.slice T2 (n + 1) c2)) T2 (n + 1) c2 D m k rr ⟨d.totals ++ [u], d.cells⟩ := by
  obtain ⟨t1, t2, t3, t4⟩ := h.turn0 hb hg
  have ho' := h.ord
  have hx := h.box.lt
  have hr := h.res.lt
  have hst := h.st.addTot hv hg hnew hn
  have hs := (Only.refl (fun j => x = j) w9).setCell (p := ⟨x, 0, none⟩) rfl (.slice T2 (n + 1) c2)
  have hlow : Below w.heap.size w9 (w9.setCell ⟨x, 0, none⟩ (.slice T2 (n + 1) c2)) := (Below.refl _ _).setCell (p := ⟨x, 0, none⟩) ho'.2.1 _
  have hap1 : ∀ j, Value.ownBlock (.slice T2 (n + 1) c2) = some j → j ≠ x ∧ j ≠ r := fun j hj => by
    rcases hnew j hj with q | q
    · exact h.ap1 j q
    · omega
  exact ⟨h.ord, h.low, t1.only hs (by show ¬ x = r; omega), t2.set0 _, hst.only hs (fun j hj e => (hap1 j hj).1 e.symm) (fun j hj e => (h.ap2 j hj).1 e.symm), hap1, h.ap2, fun j hj => Cur.low (t4 j hj) (h.low j hj) hlow, t3.low hlow⟩
/-- The result written. -/
theorem VState.fin (h : VState w S r x W T n c D m k rr d) (u0 u1 : Value) : StP w.heap.size ((W.setCell ⟨r, 0, none⟩ u0).setCell ⟨r, 1, none⟩ u1) T n c D m k rr d ∧
    (∀ j, S j → Cur ((W.setCell ⟨r, 0, none⟩ u0).setCell ⟨r, 1, none⟩ u1) j) ∧ Only S w ((W.setCell ⟨r, 0, none⟩ u0).setCell ⟨r, 1, none⟩ u1) := by
  have hs : Only (fun j => r = j) W ((W.setCell ⟨r, 0, none⟩ u0).setCell ⟨r, 1, none⟩ u1) := ((Only.refl _ W).setCell (p := ⟨r, 0, none⟩) rfl _).setCell (p := ⟨r, 1, none⟩) rfl _
  have hlow : Below w.heap.size W ((W.setCell ⟨r, 0, none⟩ u0).setCell ⟨r, 1, none⟩ u1) := ((Below.refl _ _).setCell (p := ⟨r, 0, none⟩) h.ord.1 _).setCell (p := ⟨r, 1, none⟩) h.ord.1 _
  exact ⟨h.st.only hs (fun j hj e => (h.ap1 j hj).2 e.symm) (fun j hj e => (h.ap2 j hj).2 e.symm), fun j hj => Cur.low (h.cur j hj) (h.low j hj) hlow, h.only.low hlow⟩
end
/-- Totals alone, no cells yet. -/
theorem vstate_first {w w1 : World} {r : Nat} {T : Option Addr} {n c : Nat} {l : List Int} (hr : BoxW w1 r (.slice none 0 0) (.slice none 0 0)) (hr0 : w.heap.size ≤ r) (hown : w1.ownsRow w.heap.size 3 1 (.slice T n c) n (l.map (Value.int .i64)))
    (hap : ∀ j, Value.ownBlock (.slice T n c) = some j → j ≠ r) (hn : n ≤ 1048576) (hb : Below w.heap.size w w1) (t : TypeId) :
    VState w (fun _ => False) r w1.heap.size (w1.alloc (.cells #[.slice T n c, .slice none 0 0] t)) T n c none 0 0 (fun _ => ⟨28, 1, .slice none 0 0, 0, []⟩) ⟨l, []⟩ := by
  have hal : Below w1.heap.size w1 (w1.alloc (.cells #[.slice T n c, .slice none 0 0] t)) := (Below.refl _ _).alloc (Nat.le_refl _) _
  have hrl := hr.lt
  refine ⟨⟨hr0, hb.size, by omega⟩, fun j hj => hj.elim, hr.keep hal, BoxW.new _ _ _ _,
    ⟨own_below hown hal, Bag.one (s := ⟨28, 1, .slice none 0 0, 0, []⟩) (World.ownsRow_nil _ _ _ _), ⟨rfl, ⟨rfl, rfl, rfl, rfl⟩, fun i hi => by omega⟩, fun g _ hr2 => ?_, hn, by omega, by simp⟩,
    fun j hj => ⟨by have := (hown.lt j hj).2; omega, hap j hj⟩, fun j hj => ?_, fun j hj => hj.elim, Only.of_below (bthen hb hal)⟩
  · obtain ⟨i, -, e⟩ := hr2
    cases e
  · obtain ⟨i, -, e⟩ := hj
    cases e
/-- Statistics that a call made, put into a box. -/
theorem vstate_of {w w1 : World} {S : Nat → Prop} {r : Nat} {B : Nat} {T D : Option Addr} {n c m k : Nat} {rr : Nat → Row} {d : StatsD} (hr : BoxW w1 r (.slice none 0 0) (.slice none 0 0)) (hr0 : w.heap.size ≤ r) (hrB : r < B) (hwB : w.heap.size ≤ B) (hst : StP B w1 T n c D m k rr d)
    (hS : ∀ j, S j → j < w.heap.size) (hC : ∀ j, S j → Cur w1 j) (ho : Only S w w1) (t : TypeId) :
    VState w S r w1.heap.size (w1.alloc (.cells #[.slice T n c, .slice D m k] t)) T n c D m k rr d := by
  have hal : Below w1.heap.size w1 (w1.alloc (.cells #[.slice T n c, .slice D m k] t)) := (Below.refl _ _).alloc (Nat.le_refl _) _
  have hrl := hr.lt
  refine ⟨⟨hr0, ho.size, by omega⟩, hS, hr.keep hal, BoxW.new _ _ _ _, (hst.mono hwB).below hal, fun j hj => ?_, fun j hj => ?_, fun j hj => (hC j hj).keep hal, ho.trans (Only.of_below hal)⟩
  · have := hst.tot.lt j hj
    omega
  · have := hst.bag.lt hj
    omega
end Go.Proofs.Ytjdncobdecdhmaa
