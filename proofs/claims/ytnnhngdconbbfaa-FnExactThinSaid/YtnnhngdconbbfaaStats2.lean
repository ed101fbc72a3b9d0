/-
  Statistics: copies that own their rows; comparison.
-/
import Derived.Test.YtnnhngdconbbfaaStats
namespace Go.Proofs.Ytnnhngdconbbfaa
open Go.RowKit
set_option maxRecDepth 100000

theorem infoR : (Try.prog.info? 35).map (fun i => (i.zero, i.size, i.bytes)) = some (some (.slice none 0 0), 1, 24) := by kernel_rfl
/-- Row 0 is the outer slice; its first k cells are the slices of the rows 1 .. k, which read as ls. -/
structure RowsTo (r : Nat → Row) (A : Option Addr) (n c : Nat) (ls : List (List Int)) (k : Nat) : Prop where
  len : n = ls.length
  head : (r 0).ty = 35 ∧ (r 0).sz = 1 ∧ (r 0).val = .slice A n c ∧ (r 0).len = n
  rows : ∀ i, i < k → ∃ A' n' c', (r 0).xs[i]? = some (.slice A' n' c') ∧ r (i + 1) = intRow A' n' c' (ls[i]?.getD [])
theorem own_blk_of {w : World} {B : Nat} {e : TypeId} {sz n m c : Nat} {A : Option Addr} {xs : List Value} (h : w.ownsRow B e sz (.slice A n c) m xs) : m = n := by
  rcases h.2 with ⟨hv, h0⟩ | ⟨g, cap, cur, hv, _⟩
  · injection hv with _ h2 _; omega
  · injection hv with _ h2 _; omega
theorem RowsTo.outer {B N : Nat} {w : World} {r : Nat → Row} {A : Option Addr} {n c k : Nat} {ls : List (List Int)} (h : RowsTo r A n c ls k) (hb : Bag B N w r) (hN : 0 < N) : w.ownsRow B 35 1 (.slice A n c) n (r 0).xs := by
  obtain ⟨h1, h2, h3, h4⟩ := h.head
  have := hb.own 0 hN
  unfold Row.own at this
  rw [h1, h2, h3, h4] at this
  exact this
theorem RowsTo.blk {r : Nat → Row} {A : Option Addr} {n c k : Nat} {ls : List (List Int)} (h : RowsTo r A n c ls k) : (r 0).blk = Value.ownBlock (.slice A n c) := by
  unfold Row.blk; rw [h.head.2.2.1]
/-- One row more. -/
theorem RowsTo.step {B : Nat} {w w1 : World} {r : Nat → Row} {g n c k : Nat} {ls : List (List Int)} {D : Option Addr} {n' m' : Nat} (h : RowsTo r (some ⟨g, 0, none⟩) n c ls k) (hb : Bag B (1 + k) w r) (hk : k < n)
    (ho : w1.ownsRow w.heap.size 3 1 (.slice D n' m') n' ((ls[k]?.getD []).map (Value.int .i64))) (hw : Below w.heap.size w w1) (hB : B ≤ w.heap.size) :
    ∃ r', Bag B (1 + (k + 1)) (w1.setCell ⟨g, k, none⟩ (.slice D n' m')) r' ∧ RowsTo r' (some ⟨g, 0, none⟩) n c ls (k + 1) := by
  have h1 : Bag B (1 + k + 1) w1 (rput r (1 + k) (intRow D n' m' (ls[k]?.getD []))) := by
    refine hb.snoc hw ?_ fun g' hg' => (ho.lt g' hg').1
    have := Bag.mono (Bag.one (s := intRow D n' m' (ls[k]?.getD [])) ho) hB
    exact this.own 0 (by omega)
  have hO := (h.outer hb (by omega))
  have hO1 := own_below hO hw
  have hst := hO1.stored k (.slice D n' m')
  have e0 : rput r (1 + k) (intRow D n' m' (ls[k]?.getD [])) 0 = r 0 := rput_other _ _ (by omega)
  refine ⟨rput (rput r (1 + k) (intRow D n' m' (ls[k]?.getD []))) 0 ⟨35, 1, .slice (some ⟨g, 0, none⟩) n c, n, (r 0).xs.set k (.slice D n' m')⟩, ?_, ?_⟩
  · refine h1.store (i := 0) (by omega) ?_ ?_ ?_
    · rw [e0, h.blk]; exact hst.2
    · exact hst.1
    · rw [e0, h.blk]; rfl
  · have hxl : (r 0).xs.length = n := by have := hO.1; omega
    refine ⟨h.len, ?_, fun i hi => ?_⟩
    · rw [rput_same]; exact ⟨rfl, rfl, rfl, rfl⟩
    · rw [rput_same, rput_other _ _ (show i + 1 ≠ 0 by omega)]
      by_cases e : i = k
      · subst e
        rw [show i + 1 = 1 + i by omega, rput_same]
        exact ⟨D, n', m', by rw [List.getElem?_set_self (by omega)], rfl⟩
      · obtain ⟨A', n'', c', k1, k2⟩ := h.rows i (by omega)
        rw [rput_other _ _ (by omega)]
        exact ⟨A', n'', c', by rw [List.getElem?_set_ne (by omega)]; exact k1, k2⟩
/-- Owned rows read as rows. -/
theorem RowsTo.m {B N : Nat} {w : World} {r : Nat → Row} {A : Option Addr} {n c : Nat} {ls : List (List Int)} (h : RowsTo r A n c ls n) (hb : Bag B N w r) (hN : n < N) (hs : ∀ l ∈ ls, l.length ≤ 1048576) : RowsM w A n ls := by
  refine ⟨h.len, fun hn => ?_⟩
  have hO := h.outer hb (by omega)
  obtain ⟨g, rfl, hg1, hg2⟩ := own_form hO hn
  refine ⟨_, rfl, hg2, fun i hi => ?_⟩
  obtain ⟨A', n', c', k1, k2⟩ := h.rows i (by rw [h.len]; exact hi)
  have hi' : ls[i]?.getD [] = ls[i] := getD_of_lt hi []
  rw [hi'] at k2
  have ho : w.ownsRow B 3 1 (.slice A' n' c') n' (ls[i].map (Value.int .i64)) := by
    have := hb.own (i + 1) (by have := h.len; omega)
    rw [k2] at this
    exact this
  refine ⟨[.slice A' n' c'], rfl, ⟨A', n', c', rfl, ?_, ints_of ho⟩, fun j u hu => ?_⟩
  · have h1 := (ints_of ho).1
    have := hs _ (List.getElem_mem hi)
    omega
  · have hj : j = 0 := by
      rcases j with _ | j
      · rfl
      · simp at hu
    subst hj
    simp only [List.getElem?_cons_zero, Option.some.injEq] at hu
    subst hu
    have := hO.cells (g := g) rfl i _ k1
    simpa using this

set_option maxHeartbeats 1000000 in
theorem toIntSS_any (A : Option Addr) (n c : Nat) (l : List (List Int)) (w : World) (hl : RowsM w A n l) (hn : n ≤ 1048576) :
    Calls Try.prog 147 #[.slice A n c] w fun e w' => ∃ D m r, e = .returned (.slice D n m) ∧ Bag w.heap.size (1 + n) w' r ∧ RowsTo r D n m l n ∧ Below w.heap.size w w' := by
  have HL := hide hl
  have hlen : l.length ≤ n := by rw [hl.1]; exact Nat.le_refl _
  have hlen' : n ≤ l.length := by rw [hl.1]; exact Nat.le_refl _
  clear hl
  obtain ⟨i0, hi0, hz0, hz1, hz2⟩ := info_parts infoR
  go_enter Try.func147, Try.ntmps147
  go_wp2_with (at_make; refine wpList_make_full _ rfl _ _ 72 rfl w.heap.size 35 i0 (.slice none 0 0) 1 Try.underlying72 hi0 hz0 hz1 _ _ _ _ n rfl rfl rfl rfl (by rw [hz2]; omega) (by unfold maxLen; omega) (Nat.le_refl _) ?_; intro w1 hown1 hg1)
  have hb1 : Below w.heap.size w w1 := (Below.refl _ _).grown hg1 (Nat.le_refl _) (by simp)
  have hbag : ∃ r, Bag w.heap.size (1 + 0) w1 r ∧ RowsTo r (some ⟨w.heap.size, 0, none⟩) n n l 0 :=
    ⟨fun _ => ⟨35, 1, _, n, _⟩, Bag.one hown1, by omega, ⟨rfl, rfl, rfl, rfl⟩, fun i hi => by omega⟩
  have HBag := hide hbag
  clear hown1 hg1 hi0 hz0 hz1 hz2 hbag
  go_loopw [4] (fun i wr => ∃ k : Nat, k ≤ n ∧ i = .int .i64 k ∧ (∃ r, Bag w.heap.size (1 + k) wr r ∧ RowsTo r (some ⟨w.heap.size, 0, none⟩) n n l k) ∧ Below w.heap.size w wr) (fun i _ => n - (intOf i).toNat)
  case atStart => exact ⟨0, Nat.zero_le _, rfl, HBag.out, hb1⟩
  case round =>
    clear hb1 HBag
    obtain ⟨k, hk, rfl, ⟨r, hbag, hto⟩, hbel⟩ := hrel
    by_cases hlt : k < n
    · obtain ⟨ad, A', n', c', rfl, hbk, hcell, hn', hI⟩ := (HL.out).at_ hlt
      have hc1 := (hbel.cell (p := ad.add k) (by rw [block_of_add]; exact hbk)).trans hcell
      have hI1 := hide (hI.keep hbel)
      have hO := hide (hto.outer hbag (by omega))
      have HB := hide hbag
      have HT := hide hto
      have hil : Hid (n' = (l[k]?.getD []).length) := hI.1
      clear hI hbag hto hcell
      go_wp2_with (fail)
      refine (toIntS_any A' n' c' _ _ hI1.out (by omega)).mono ?_
      rintro e w2 ⟨D, m, rfl, ho, hb2⟩
      have ho' : w2.ownsRow wr.heap.size 3 1 (.slice D n' m) n' ((l[k]?.getD []).map (Value.int .i64)) := by
        have := ho
        unfold OwnI at this
        rw [← hil.out] at this
        exact this
      have hst := hide (HT.out.step HB.out hlt ho' hb2 hbel.size)
      have hO2 := own_below hO.out hb2
      obtain ⟨u, hu⟩ : ∃ u, w2.cell? ⟨w.heap.size, k, none⟩ = some u := by
        rw [hO2.cellAt k (by omega)]
        exact ⟨_, List.getElem?_eq_getElem (by have := hO2.1; omega)⟩
      have hf := hO2.frozenAt k
      have hbel2 := hide ((bthen hbel hb2).setCell (p := ⟨w.heap.size, k, none⟩) (Nat.le_refl _) (.slice D n' m))
      clear ho ho' hO2 hb2 hbel
      go_wp2
      go_roundw
      case rel => exact ⟨k + 1, by omega, by go_num, hst.out, hbel2.out⟩
      case measure => simp [intOf]; omega
    · obtain rfl : k = n := by omega
      go_wp2
      go_ret
      exact ⟨_, _, r, rfl, hbag, hto, hbel⟩
end Go.Proofs.Ytnnhngdconbbfaa
