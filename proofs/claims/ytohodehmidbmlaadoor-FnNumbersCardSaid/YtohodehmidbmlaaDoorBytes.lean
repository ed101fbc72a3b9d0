/-
  Contracts of functions on slices of bytes: copied, compared, marked, held.
-/
import Derived.Test.YtohodehmidbmlaaDoorInts
namespace Go.Proofs.YtohodehmidbmlaaDoor
open Go.RowKit

def byteV (x : UInt8) : Value := .int .u8 (x.toNat : Int)
theorem byteV_eq (x : UInt8) : byteV x = .int .u8 (x.toNat : Int) := rfl

set_option maxHeartbeats 400000 in
theorem eqByteS_any (A B : Option Addr) (n m c d : Nat) (l r : List UInt8) (w : World) (hl : Bytes w A n l) (hr : Bytes w B m r) (hn : n ≤ 2097152) (hm : m ≤ 2097152) :
    Calls Tryd.prog 26 #[.slice A n c, .slice B m d] w fun e w' => e = .returned (.bool (decide (l = r))) ∧ ∃ q, w' = w.drewN q := by
  have HL := hide hl
  have HR := hide hr
  clear hl hr
  by_cases hnm : n = m
  · subst hnm
    go_enter Tryd.func26, Tryd.ntmps26
    go_wp2
    go_loopw [5] (fun i wr => ∃ k : Nat, k ≤ n ∧ i = .int .i64 k ∧ l.take k = r.take k ∧ ∃ q, wr = w.drewN q) (fun i _ => n - (intOf i).toNat)
    case atStart => exact ⟨0, Nat.zero_le _, rfl, by simp, 0, rfl⟩
    case round =>
      obtain ⟨k, hk, rfl, htk, q, rfl⟩ := hrel
      have HT := hide htk
      clear htk
      by_cases hlt : k < n
      · obtain ⟨a1, rfl, _, hc1⟩ := (HL.out).at_ hlt
        obtain ⟨a2, rfl, _, hc2⟩ := (HR.out).at_ hlt
        by_cases he : l[k]?.getD 0 = r[k]?.getD 0
        · have HS := hide (take_eq_step 0 (by have := HL.out.1; omega) (by have := HR.out.1; omega) HT.out he)
          have HE : ((((l[k]?.getD 0).toNat : Int)) == (((r[k]?.getD 0).toNat : Int))) = true := by rw [he]; exact beq_self_eq_true _
          have HE' : ((((l[k]?.getD 0).toNat : Int)) != (((r[k]?.getD 0).toNat : Int))) = false := by rw [he]; simp
          clear he
          go_wp2
          go_quiet (fail)
          go_wp2
          go_roundw
          case rel => exact ⟨k + 1, by omega, by go_num, HS.out, _, rfl⟩
          case measure => simp [intOf]; omega
        · have HS := hide (take_ne_step 0 he)
          have HE' : ((((l[k]?.getD 0).toNat : Int)) != (((r[k]?.getD 0).toNat : Int))) = true := by rw [bne_iff_ne]; intro h; exact he (UInt8.toNat_inj.1 (by omega))
          clear he
          go_wp2
          go_quiet (fail)
          go_wp2
          go_ret
          exact ⟨ret_bool (by simp [HS.out]), _, World.drewN_drewN _ _ _⟩
      · have HS := hide (show l = r by
          have h := HT.out
          rwa [List.take_of_length_le (by have := HL.out.1; omega), List.take_of_length_le (by have := HR.out.1; omega)] at h)
        go_wp2
        go_ret
        exact ⟨ret_bool (by simp [HS.out]), _, rfl⟩
  · have HS := hide (show ¬ l = r by
      rintro rfl
      exact hnm (by have := HL.out.1; have := HR.out.1; omega))
    have hne : ((n : Int) != (m : Int)) = true := by rw [bne_iff_ne]; omega
    clear hnm
    go_enter Tryd.func26, Tryd.ntmps26
    go_wp2
    go_ret
    exact ⟨ret_bool (by simp [HS.out]), 0, rfl⟩

theorem infoB : (Tryd.prog.info? 5).map (fun i => (i.zero, i.size, i.bytes)) = some (some (.int .u8 0), 1, 1) := by kernel_rfl

/-- A slice value that owns the integers l, in a block from B on. -/
abbrev OwnB (B : Nat) (w : World) (v : Value) (l : List UInt8) : Prop := w.ownsRow B 5 1 v l.length (l.map byteV)

theorem OwnB.ints {B : Nat} {w : World} {A : Option Addr} {n c : Nat} {l : List UInt8} (h : OwnB B w (.slice A n c) l) : Bytes w A n l := by
  obtain ⟨h1, h2⟩ := h
  rcases h2 with ⟨hv, hn⟩ | ⟨g, cap, cur, hv, hb, hg, hnc, hcm, hcs, ht⟩
  · injection hv with h3 h4 h5
    exact ⟨by omega, fun h => absurd h (by omega)⟩
  · injection hv with h3 h4 h5
    subst h3 h4 h5
    refine ⟨rfl, fun hn => ⟨_, rfl, (Array.getElem?_eq_some_iff.1 hg).1, fun i hi => ⟨[.int .u8 l[i].toNat], rfl, rfl, fun j u hu => ?_⟩⟩⟩
    have hj : j = 0 := by
      rcases j with _ | j
      · rfl
      · simp at hu
    subst hj
    simp only [List.getElem?_cons_zero, Option.some.injEq] at hu
    subst hu
    have := World.ownsRow.cells (v := .slice (some ⟨g, 0, none⟩) l.length c) ⟨h1, .inr ⟨g, c, cur, rfl, hb, hg, hnc, hcm, hcs, ht⟩⟩ (g := g) rfl i (.int .u8 l[i].toNat) (by simp [hi, byteV])
    simpa using this

theorem getD_map_byte {l : List UInt8} {k : Nat} (h : k < l.length) : (l.map byteV)[k]? = some (.int .u8 (l[k]?.getD 0).toNat) := by
  rw [List.getElem?_map, List.getElem?_eq_getElem h]; rfl
theorem bytes_of {B : Nat} {w : World} {A : Option Addr} {n c : Nat} {l : List UInt8} (h : w.ownsRow B 5 1 (.slice A n c) n (l.map byteV)) : Bytes w A n l := by
  have hn : n = l.length := by simpa using h.1.symm
  subst hn
  exact OwnB.ints h
theorem eqByteS_b (A B : Option Addr) (n m c d : Nat) (l r : List UInt8) (w : World) (hl : Bytes w A n l) (hr : Bytes w B m r) (hn : n ≤ 2097152) (hm : m ≤ 2097152) :
    Calls Tryd.prog 26 #[.slice A n c, .slice B m d] w fun e w' => e = .returned (.bool (decide (l = r))) ∧ Below w.heap.size w w' :=
  (eqByteS_any A B n m c d l r w hl hr hn hm).mono fun _ _ ⟨he, q, hw⟩ => ⟨he, by subst hw; exact below_drewN (Below.refl _ _) _⟩

set_option maxHeartbeats 400000 in
theorem toByteS_any (A : Option Addr) (n c : Nat) (l : List UInt8) (w : World) (hl : Bytes w A n l) (hn : n ≤ 2097152) :
    Calls Tryd.prog 22 #[.slice A n c] w fun e w' => ∃ D m, e = .returned (.slice D n m) ∧ OwnB w.heap.size w' (.slice D n m) l ∧ Below w.heap.size w w' := by
  have HL := hide hl
  have hlen : l.length ≤ n := by rw [hl.1]; exact Nat.le_refl _
  have hlen' : n ≤ l.length := by rw [hl.1]; exact Nat.le_refl _
  clear hl
  obtain ⟨i0, hi0, hz0, hz1, hz2⟩ := info_parts infoB
  go_enter Tryd.func22, Tryd.ntmps22
  go_wp2_with (at_make; refine wpList_make_full _ rfl _ _ 26 rfl w.heap.size 5 i0 (.int .u8 0) 1 Tryd.underlying26 hi0 hz0 hz1 _ _ _ _ n rfl rfl rfl rfl (by rw [hz2]; omega) (by unfold maxLen; omega) (Nat.le_refl _) ?_; intro w1 hown1 hg1)
  have hown : w1.ownsRow w.heap.size 5 1 (.slice (some ⟨w.heap.size, 0, none⟩) n n) n (fillTo (l.map byteV) (.int .u8 0) 0) := by
    have h := hown1
    simp only [Value.cells, Nat.mul_one] at h
    rw [toList_madeCells_one] at h
    rw [fillTo_zero, List.length_map, show l.length = n by omega]
    exact h
  have hb1 : Below w.heap.size w w1 := (Below.refl _ _).grown hg1 (Nat.le_refl _) (by simp)
  clear hown1 hg1 hi0 hz0 hz1 hz2
  go_loopw [4] (fun i wr => ∃ k : Nat, k ≤ n ∧ i = .int .i64 k ∧ wr.ownsRow w.heap.size 5 1 (.slice (some ⟨w.heap.size, 0, none⟩) n n) n (fillTo (l.map byteV) (.int .u8 0) k) ∧ Below w.heap.size w wr) (fun i _ => n - (intOf i).toNat)
  case atStart => exact ⟨0, Nat.zero_le _, rfl, hown, hb1⟩
  case round =>
    clear hown hb1
    obtain ⟨k, hk, rfl, hown, hbel⟩ := hrel
    by_cases hlt : k < n
    · obtain ⟨ad, rfl, hbk, hcell⟩ := (HL.out).at_ hlt
      have hc1 := (hbel.cell (p := ad.add k) (by rw [block_of_add]; exact hbk)).trans hcell
      have hc2 := (hown.cellAt k (by omega)).trans (fillTo_get (by simp; omega))
      have hf2 := hown.frozenAt k
      have hst := (hown.stored k (.int .u8 (l[k]?.getD 0).toNat)).1
      rw [fillTo_set (by simp; omega) (getD_map_byte (by omega))] at hst
      have hb2 := hbel.setCell (p := ⟨w.heap.size, k, none⟩) (Nat.le_refl _) (.int .u8 (l[k]?.getD 0).toNat)
      go_wp2
      go_roundw
      case rel => exact ⟨k + 1, by omega, by go_num, hst, hb2⟩
      case measure => simp [intOf]; omega
    · rw [fillTo_all (by simp; omega)] at hown
      go_wp2
      go_ret
      refine ⟨_, _, rfl, ?_, hbel⟩
      show World.ownsRow _ _ _ _ _ _ _
      rw [show l.length = n by omega]
      exact hown

/-- The marks of bytes. -/
def marksB (k : Int) (n : Nat) : List UInt8 := (List.range n).map fun i => UInt8.ofNat ((k + (i : Nat)).toNat % 256)
theorem marksB_len (k : Int) (n : Nat) : (marksB k n).length = n := by simp [marksB]
theorem marksB_get (k : Int) (h0 : 0 ≤ k) {n i : Nat} (h : i < n) : (((marksB k n)[i]?.getD 0).toNat : Int) = (k + i) % 256 := by
  simp [marksB, h]; omega

set_option maxHeartbeats 400000 in
theorem markByteS_any (B : Nat) (A : Option Addr) (n c : Nat) (l : List UInt8) (k0 : Int) (w : World) (hl : w.ownsRow B 5 1 (.slice A n c) n (l.map byteV))
    (hn : n ≤ 2097152) (h0 : 0 ≤ k0) (h1 : k0 ≤ 1099511627776) :
    Calls Tryd.prog 28 #[.slice A n c, .int .i64 k0] w fun e w' => e = .returned (.int .i64 (k0 + n)) ∧
      w'.ownsRow B 5 1 (.slice A n c) n ((marksB k0 n).map byteV) ∧ w.grownBy w' (Value.ownBlock (.slice A n c)) := by
  have hlen : l.length = n := by simpa using hl.1
  have HX := hide hlen
  clear hlen
  go_enter Tryd.func28, Tryd.ntmps28
  go_wp2
  go_loopw [1, 5] (fun v i wr => ∃ k : Nat, k ≤ n ∧ i = .int .i64 k ∧ v = .int .i64 (k0 + k) ∧ wr.ownsRow B 5 1 (.slice A n c) n (mixTo (l.map byteV) ((marksB k0 n).map byteV) k) ∧ w.grownBy wr (Value.ownBlock (.slice A n c))) (fun _ i _ => n - (intOf i).toNat)
  case atStart => exact ⟨0, Nat.zero_le _, rfl, by simp, by rw [mixTo_zero]; exact hl, World.grownBy.refl _ _⟩
  case round =>
    clear hl
    obtain ⟨k, hk, rfl, rfl, hown, hgr⟩ := hrel
    by_cases hlt : k < n
    · obtain ⟨g, rfl, hbk, hgl⟩ := own_form hown (by omega)
      have hc2 := hown.cellAt k (by omega)
      rw [mixTo_get (by simp [marksB_len]; omega), getD_map_byte (by have := HX.out; omega)] at hc2
      have hf2 := hown.frozenAt k
      have hst := hown.stored k (.int .u8 ((k0 + k) % 256))
      rw [mixTo_set (by simp; have := HX.out; omega) (by simp [marksB_len]; omega) (by rw [getD_map_byte (by rw [marksB_len]; omega), marksB_get k0 h0 hlt])] at hst
      have hst1 := hst.1
      have hst2 := only_trans hgr hst.2
      clear hst
      go_wp2
      go_roundw
      case rel => exact ⟨k + 1, by omega, by go_num, by go_num, hst1, hst2⟩
      case measure => simp [intOf]; omega
    · obtain rfl : k = n := by omega
      rw [mixTo_all (by simp [marksB_len]) (by simp; have := HX.out; omega)] at hown
      go_wp2
      go_ret
      exact ⟨rfl, hown, hgr⟩

end Go.Proofs.YtohodehmidbmlaaDoor
