/-
  Contracts of functions on slices of strings: copied, compared, marked, held.
-/
import Derived.Test.YtjdncobdecdhmaaMark
import Derived.Deep.RegionHeld3
namespace Go.Proofs.Ytjdncobdecdhmaa
open Go.RowKit

instance : Inhabited ByteArray := ⟨ByteArray.empty⟩
theorem toList_inj {a b : ByteArray} (h : a.toList = b.toList) : a = b := by
  rw [ByteArray.toList_eq, ByteArray.toList_eq] at h
  exact ByteArray.ext (Array.toList_inj.1 h)
set_option maxHeartbeats 400000 in
theorem eqStringS_any (A B : Option Addr) (n m c d : Nat) (l r : List ByteArray) (w : World) (hl : Strs w A n l) (hr : Strs w B m r) (hn : n ≤ 2097152) (hm : m ≤ 2097152) :
    Calls Try.prog 59 #[.slice A n c, .slice B m d] w fun e w' => e = .returned (.bool (decide (l = r))) ∧ ∃ q, w' = w.drewN q := by
  have HL := hide hl
  have HR := hide hr
  clear hl hr
  by_cases hnm : n = m
  · subst hnm
    go_enter Try.func59, Try.ntmps59
    go_wp2
    go_loopw [5] (fun i wr => ∃ k : Nat, k ≤ n ∧ i = .int .i64 k ∧ l.take k = r.take k ∧ ∃ q, wr = w.drewN q) (fun i _ => n - (intOf i).toNat)
    case atStart => exact ⟨0, Nat.zero_le _, rfl, by simp, 0, rfl⟩
    case round =>
      obtain ⟨k, hk, rfl, htk, q, rfl⟩ := hrel
      have HT := hide htk
      clear htk
      by_cases hlt : k < n
      · obtain ⟨a1, rfl, _, hc1⟩ := (HL.out).at_ hlt
        obtain ⟨a2, rfl, _, hc2⟩ := (HR.out).at_ hlt
        by_cases he : l[k]?.getD ByteArray.empty = r[k]?.getD ByteArray.empty
        · have HS := hide (take_eq_step ByteArray.empty (by have := HL.out.1; omega) (by have := HR.out.1; omega) HT.out he)
          have HE : ((l[k]?.getD ByteArray.empty).toList == (r[k]?.getD ByteArray.empty).toList) = true := by rw [he]; exact beq_self_eq_true _
          have HE' : ((l[k]?.getD ByteArray.empty).toList != (r[k]?.getD ByteArray.empty).toList) = false := by rw [he]; simp
          clear he
          go_wp2
          go_quiet (fail)
          go_wp2
          go_roundw
          case rel => exact ⟨k + 1, by omega, by go_num, HS.out, _, rfl⟩
          case measure => simp [intOf]; omega
        · have HS := hide (take_ne_step ByteArray.empty he)
          have HE' : ((l[k]?.getD ByteArray.empty).toList == (r[k]?.getD ByteArray.empty).toList) = false := by rw [beq_eq_false_iff_ne]; intro h; exact he (toList_inj h)
          clear he
          go_wp2
          go_quiet (fail)
          go_wp2
          go_ret
          exact ⟨ret_bool (by simp [HS.out]), _, World.drewN_drewN _ _ _⟩
      · have HS := hide (show l = r by
          have h := HT.out
          rwa [List.take_of_length_le (by have := HL.out.1; omega), List.take_of_length_le (by have := HR.out.1; omega)] at h)
        go_wp2
        go_ret
        exact ⟨ret_bool (by simp [HS.out]), _, rfl⟩
  · have HS := hide (show ¬ l = r by
      rintro rfl
      exact hnm (by have := HL.out.1; have := HR.out.1; omega))
    have hne : ((n : Int) != (m : Int)) = true := by rw [bne_iff_ne]; omega
    clear hnm
    go_enter Try.func59, Try.ntmps59
    go_wp2
    go_ret
    exact ⟨ret_bool (by simp [HS.out]), 0, rfl⟩

theorem infoS : (Try.prog.info? 9).map (fun i => (i.zero, i.size, i.bytes)) = some (some (.string ⟨#[]⟩), 1, 16) := by kernel_rfl

/-- A slice value that owns the integers l, in a block from B on. -/
abbrev OwnS (B : Nat) (w : World) (v : Value) (l : List ByteArray) : Prop := w.ownsRow B 9 1 v l.length (l.map Value.string)

theorem OwnS.ints {B : Nat} {w : World} {A : Option Addr} {n c : Nat} {l : List ByteArray} (h : OwnS B w (.slice A n c) l) : Strs w A n l := by
  obtain ⟨h1, h2⟩ := h
  rcases h2 with ⟨hv, hn⟩ | ⟨g, cap, cur, hv, hb, hg, hnc, hcm, hcs, ht⟩
  · injection hv with h3 h4 h5
    exact ⟨by omega, fun h => absurd h (by omega)⟩
  · injection hv with h3 h4 h5
    subst h3 h4 h5
    refine ⟨rfl, fun hn => ⟨_, rfl, (Array.getElem?_eq_some_iff.1 hg).1, fun i hi => ⟨[.string l[i]], rfl, rfl, fun j u hu => ?_⟩⟩⟩
    have hj : j = 0 := by
      rcases j with _ | j
      · rfl
      · simp at hu
    subst hj
    simp only [List.getElem?_cons_zero, Option.some.injEq] at hu
    subst hu
    have := World.ownsRow.cells (v := .slice (some ⟨g, 0, none⟩) l.length c) ⟨h1, .inr ⟨g, c, cur, rfl, hb, hg, hnc, hcm, hcs, ht⟩⟩ (g := g) rfl i (.string l[i]) (by simp [hi])
    simpa using this

theorem getD_map_str {l : List ByteArray} {k : Nat} (h : k < l.length) : (l.map Value.string)[k]? = some (Value.string (l[k]?.getD ByteArray.empty)) := by
  rw [List.getElem?_map, List.getElem?_eq_getElem h]; rfl

theorem strs_of {B : Nat} {w : World} {A : Option Addr} {n c : Nat} {l : List ByteArray} (h : w.ownsRow B 9 1 (.slice A n c) n (l.map Value.string)) : Strs w A n l := by
  have hn : n = l.length := by simpa using h.1.symm
  subst hn
  exact OwnS.ints h
theorem eqStringS_b (A B : Option Addr) (n m c d : Nat) (l r : List ByteArray) (w : World) (hl : Strs w A n l) (hr : Strs w B m r) (hn : n ≤ 2097152) (hm : m ≤ 2097152) :
    Calls Try.prog 59 #[.slice A n c, .slice B m d] w fun e w' => e = .returned (.bool (decide (l = r))) ∧ Below w.heap.size w w' :=
  (eqStringS_any A B n m c d l r w hl hr hn hm).mono fun _ _ ⟨he, q, hw⟩ => ⟨he, by subst hw; exact below_drewN (Below.refl _ _) _⟩

set_option maxHeartbeats 400000 in
theorem toStringS_any (A : Option Addr) (n c : Nat) (l : List ByteArray) (w : World) (hl : Strs w A n l) (hn : n ≤ 2097152) :
    Calls Try.prog 53 #[.slice A n c] w fun e w' => ∃ D m, e = .returned (.slice D n m) ∧ OwnS w.heap.size w' (.slice D n m) l ∧ Below w.heap.size w w' := by
  have HL := hide hl
  have hlen : l.length ≤ n := by rw [hl.1]; exact Nat.le_refl _
  have hlen' : n ≤ l.length := by rw [hl.1]; exact Nat.le_refl _
  clear hl
  obtain ⟨i0, hi0, hz0, hz1, hz2⟩ := info_parts infoS
  go_enter Try.func53, Try.ntmps53
  go_wp2_with (at_make; refine wpList_make_full _ rfl _ _ 26 rfl w.heap.size 9 i0 (.string ⟨#[]⟩) 1 Try.underlying26 hi0 hz0 hz1 _ _ _ _ n rfl rfl rfl rfl (by rw [hz2]; omega) (by unfold maxLen; omega) (Nat.le_refl _) ?_; intro w1 hown1 hg1)
  have hown : w1.ownsRow w.heap.size 9 1 (.slice (some ⟨w.heap.size, 0, none⟩) n n) n (fillTo (l.map Value.string) (.string ⟨#[]⟩) 0) := by
    have h := hown1
    simp only [Value.cells, Nat.mul_one] at h
    rw [toList_madeCells_one] at h
    rw [fillTo_zero, List.length_map, show l.length = n by omega]
    exact h
  have hb1 : Below w.heap.size w w1 := (Below.refl _ _).grown hg1 (Nat.le_refl _) (by simp)
  clear hown1 hg1 hi0 hz0 hz1 hz2
  go_loopw [4] (fun i wr => ∃ k : Nat, k ≤ n ∧ i = .int .i64 k ∧ wr.ownsRow w.heap.size 9 1 (.slice (some ⟨w.heap.size, 0, none⟩) n n) n (fillTo (l.map Value.string) (.string ⟨#[]⟩) k) ∧ Below w.heap.size w wr) (fun i _ => n - (intOf i).toNat)
  case atStart => exact ⟨0, Nat.zero_le _, rfl, hown, hb1⟩
  case round =>
    clear hown hb1
    obtain ⟨k, hk, rfl, hown, hbel⟩ := hrel
    by_cases hlt : k < n
    · obtain ⟨ad, rfl, hbk, hcell⟩ := (HL.out).at_ hlt
      have hc1 := (hbel.cell (p := ad.add k) (by rw [block_of_add]; exact hbk)).trans hcell
      have hc2 := (hown.cellAt k (by omega)).trans (fillTo_get (by simp; omega))
      have hf2 := hown.frozenAt k
      have hst := (hown.stored k (Value.string (l[k]?.getD ByteArray.empty))).1
      rw [fillTo_set (by simp; omega) (getD_map_str (by omega))] at hst
      have hb2 := hbel.setCell (p := ⟨w.heap.size, k, none⟩) (Nat.le_refl _) (Value.string (l[k]?.getD ByteArray.empty))
      go_wp2
      go_roundw
      case rel => exact ⟨k + 1, by omega, by go_num, hst, hb2⟩
      case measure => simp [intOf]; omega
    · rw [fillTo_all (by simp; omega)] at hown
      go_wp2
      go_ret
      refine ⟨_, _, rfl, ?_, hbel⟩
      show World.ownsRow _ _ _ _ _ _ _
      rw [show l.length = n by omega]
      exact hown


/-- The marks of strings. -/
def marksS (k : Int) (n : Nat) : List ByteArray := (List.range n).map fun i => markB (k + (i : Nat))
theorem marksS_len (k : Int) (n : Nat) : (marksS k n).length = n := by simp [marksS]
theorem marksS_get (k : Int) {n i : Nat} (h : i < n) : (marksS k n)[i]?.getD ByteArray.empty = markB (k + i) := by simp [marksS, h]

theorem only_below {a b c : World} {row : Option Nat} (h : a.grownBy b row) (k : Below b.heap.size b c) : a.grownBy c row := only_trans h (only_of_below k row)

set_option maxHeartbeats 400000 in
theorem markStringS_any (B : Nat) (A : Option Addr) (n c : Nat) (l : List ByteArray) (k0 : Int) (w : World) (hl : w.ownsRow B 9 1 (.slice A n c) n (l.map Value.string))
    (hn : n ≤ 2097152) (h0 : 0 ≤ k0) (h1 : k0 ≤ 549755813888) :
    Calls Try.prog 61 #[.slice A n c, .int .i64 k0] w fun e w' => e = .returned (.int .i64 (k0 + n)) ∧
      w'.ownsRow B 9 1 (.slice A n c) n ((marksS k0 n).map Value.string) ∧ w.grownBy w' (Value.ownBlock (.slice A n c)) := by
  have hlen : l.length = n := by simpa using hl.1
  have HX := hide hlen
  clear hlen
  go_enter Try.func61, Try.ntmps61
  go_wp2
  go_loopw [1, 5] (fun v i wr => ∃ k : Nat, k ≤ n ∧ i = .int .i64 k ∧ v = .int .i64 (k0 + k) ∧ wr.ownsRow B 9 1 (.slice A n c) n (mixTo (l.map Value.string) ((marksS k0 n).map Value.string) k) ∧ w.grownBy wr (Value.ownBlock (.slice A n c))) (fun _ i _ => n - (intOf i).toNat)
  case atStart => exact ⟨0, Nat.zero_le _, rfl, by simp, by rw [mixTo_zero]; exact hl, World.grownBy.refl _ _⟩
  case round =>
    clear hl
    obtain ⟨k, hk, rfl, rfl, hown, hgr⟩ := hrel
    by_cases hlt : k < n
    · go_wp2_with (fail)
      refine (markText_any _ _ (by omega)).mono ?_
      rintro e w1 ⟨rfl, hb1⟩
      obtain ⟨g, rfl, hbk, hgl⟩ := own_form hown (by omega)
      have hown1 := own_below hown hb1
      have hgr1 := only_below hgr hb1
      have hc2 := hown1.cellAt k (by omega)
      rw [mixTo_get (by simp [marksS_len]; omega), getD_map_str (by have := HX.out; omega)] at hc2
      have hf2 := hown1.frozenAt k
      have hst := hown1.stored k (.string (markB (k0 + k)))
      rw [mixTo_set (by simp; have := HX.out; omega) (by simp [marksS_len]; omega) (by rw [getD_map_str (by rw [marksS_len]; omega), marksS_get k0 hlt])] at hst
      have hst1 := hst.1
      have hst2 := only_trans hgr1 hst.2
      clear hst hown hgr hb1 hown1 hgr1
      go_wp2
      go_roundw
      case rel => exact ⟨k + 1, by omega, by go_num, by go_num, hst1, hst2⟩
      case measure => simp [intOf]; omega
    · obtain rfl : k = n := by omega
      rw [mixTo_all (by simp [marksS_len]) (by simp; have := HX.out; omega)] at hown
      go_wp2
      go_ret
      exact ⟨rfl, hown, hgr⟩

end Go.Proofs.Ytjdncobdecdhmaa
