/-
  Contracts: marks in schemas, the walks.
-/
import Derived.Test.YtjdncobdecdhmaaMarkA
namespace Go.Proofs.Ytjdncobdecdhmaa
open Go.RowKit
set_option maxRecDepth 100000

set_option maxHeartbeats 4000000 in
theorem markAttrS_any (S : Nat → Prop) (B : Nat) (A : Option Addr) (n c : Nat) (ls : List AttrD) (r : Nat → Row) (k0 : Int) (w : World) (hb : Bag B (1 + 2 * n) w r) (ht : AttrsTo r A n c ls n) (hS : ∀ k, has (1 + 2 * n) r k → S k)
    (hn : n ≤ 1048576) (hs : (ls.map cntAttr).sum ≤ 2097152) (h0 : 0 ≤ k0) (h1 : k0 ≤ 1073741824) :
    Calls Try.prog 60 #[.slice A n c, .int .i64 k0] w fun e w' => e = .returned (.int .i64 (k0 + (ls.map cntAttr).sum)) ∧
      (∃ r', Bag B (1 + 2 * n) w' r' ∧ AttrsTo r' A n c (marksA k0 ls) n ∧ ∀ k, has (1 + 2 * n) r' k ↔ has (1 + 2 * n) r k) ∧ Only S w w' := by
  have hlen := hide ht.len
  have HB := hide hb
  have HT := hide ht
  clear hb ht
  go_enter Try.func60, Try.ntmps60
  go_wp2
  go_loopw [1, 5] (fun v i wr => ∃ (K L : Nat), K ≤ n ∧ i = .int .i64 K ∧ v = .int .i64 (k0 + L) ∧ L ≤ 2097152 ∧ Hid (L = lensA ls K) ∧ (∃ r', Bag B (1 + 2 * n) wr r' ∧ AttrsTo r' A n c (mixAttrs k0 ls K) n ∧ ∀ k, has (1 + 2 * n) r' k ↔ has (1 + 2 * n) r k) ∧ Only S w wr) (fun _ i _ => n - (intOf i).toNat)
  case atStart => exact ⟨0, 0, Nat.zero_le _, rfl, by simp, by omega, show _ = _ by simp [lensA], ⟨r, HB.out, HT.out, fun _ => Iff.rfl⟩, Only.refl _ _⟩
  case round =>
    clear HB HT
    obtain ⟨K, L, hk, rfl, rfl, hL, hLs, ⟨r', hb, ht, hhas⟩, hon⟩ := hrel
    by_cases hlt : K < n
    · have HH := hide hhas
      clear hhas
      obtain ⟨A1, n1, c1, A2, n2, c2, q0, q1, q2, q3, q4⟩ := ht.rows K hlt
      have hO := ht.outer hb (by omega)
      obtain ⟨g, rfl, hg1, hg2⟩ := own_form hO (by omega)
      have hkl := hide (show K < ls.length by rw [← hlen.out]; exact hlt)
      have e1 := hide (show (mixAttrs k0 ls K)[K]?.getD default = ls[K]?.getD default by rw [mixAttrs_old (Nat.le_refl _)])
      rw [e1.out] at q0 q3 q4
      obtain ⟨a, ha⟩ : ∃ a, a = ls[K]?.getD default := ⟨_, rfl⟩
      rw [← ha] at q0 q3 q4
      have HA := hide ha
      have z1 := hide (show n1 = a.cuts.length from (ints_of (intRow_of hb (by omega) q3)).1)
      have z2 := hide (show n2 = a.vals.length from (strs_of (strRow_of hb (by omega) q4)).1)
      have e3 := hide (show lensA ls (K + 1) = L + 1 + n1 + n2 by rw [lensA_step hkl.out, ← hLs.out, ← HA.out, cntAttr, ← z1.out, ← z2.out]; omega)
      have hL2 : L + 1 + n1 + n2 ≤ 2097152 := by rw [← e3.out]; exact Nat.le_trans lensA_le hs
      have hxl : (r' 0).xs.length = n * 3 := hO.1
      have HB := hide hb
      have HT := hide ht
      have HQ := hide (And.intro q1 (And.intro q2 (And.intro q3 (And.intro q4 hxl))))
      have hS0 := hide (show S g from hS g ((HH.out g).1 ⟨0, by omega, by unfold Row.blk; rw [ht.head.2.2.1]; rfl⟩))
      have hv := hide (show (r' 0).val = .slice (some ⟨g, 0, none⟩) (r' 0).len c from by rw [ht.head.2.2.1, ht.head.2.2.2])
      clear hb ht q0 q1 q2 q3 q4 hO ha hxl
      go_wp2_with (fail)
      refine (markText_any _ _ (by omega)).mono ?_
      rintro e w1 ⟨rfl, hb1⟩
      have hbag1 := HB.out.below hb1
      have hO1 := HT.out.outer hbag1 (by omega)
      have p0 : ∃ u, w1.cell? ⟨g, K * 3, none⟩ = some u := by
        rw [hO1.cellAt (K * 3) (by omega)]
        exact ⟨_, List.getElem?_eq_getElem (by have := hO1.1; omega)⟩
      obtain ⟨u0, p0⟩ := p0
      have p1 := (hO1.cellAt (K * 3 + 1) (by omega)).trans HQ.out.1
      have f0 := hO1.frozenAt (K * 3)
      have hbag2 := hbag1.poke (i := 0) (g := g) (c := c) (by omega) hv.out (K * 3) (.string (markB (k0 + L)))
      obtain ⟨r1, hr1⟩ : ∃ s, s = rput r' 0 ⟨(r' 0).ty, (r' 0).sz, (r' 0).val, (r' 0).len, (r' 0).xs.set (K * 3) (.string (markB (k0 + L)))⟩ := ⟨_, rfl⟩
      rw [← hr1] at hbag2
      have y1 : r1 (1 + 2 * K) = intRow A1 n1 c1 a.cuts := by rw [hr1, rput_other _ _ (by omega)]; exact HQ.out.2.2.1
      have y2 : r1 (2 + 2 * K) = strRow A2 n2 c2 a.vals := by rw [hr1, rput_other _ _ (by omega)]; exact HQ.out.2.2.2.1
      have hon2 := hide ((hon.trans (Only.of_below hb1)).setCell (p := ⟨g, K * 3, none⟩) hS0.out (.string (markB (k0 + L))))
      have hhr1 := hide (show ∀ k, has (1 + 2 * n) r1 k ↔ has (1 + 2 * n) r k from fun k => by rw [hr1]; exact (has_rput (r := r') (i := 0) (s := ⟨(r' 0).ty, (r' 0).sz, (r' 0).val, (r' 0).len, (r' 0).xs.set (K * 3) (.string (markB (k0 + L)))⟩) rfl).trans (HH.out k))
      have HB2 := hide hbag2
      have HR1 := hide hr1
      have HY := hide (And.intro y1 y2)
      have HI1 := hide (intRow_of hbag2 (by omega) y1)
      clear hb1 hbag1 hO1 hbag2 hr1 y1 y2 hon
      go_wp2_with (fail)
      refine (markIntS_any B A1 n1 c1 a.cuts _ _ HI1.out (by omega) (by omega) (by omega)).mono ?_
      rintro e w2 ⟨rfl, ho2, hg2'⟩
      have hbag3 := HB2.out.store (i := 1 + 2 * K) (s := intRow A1 n1 c1 (marksI (k0 + L + 1) n1)) (by omega) (by rw [HY.out.1]; exact hg2') ho2 (by rw [HY.out.1]; rfl)
      obtain ⟨r2, hr2⟩ : ∃ s, s = rput r1 (1 + 2 * K) (intRow A1 n1 c1 (marksI (k0 + L + 1) n1)) := ⟨_, rfl⟩
      rw [← hr2] at hbag3
      have hon3 := hide (hon2.out.trans (Only.of_grown (S := S) hg2' fun k hk => hS k ((hhr1.out k).1 ⟨1 + 2 * K, by omega, by rw [HY.out.1]; exact hk⟩)))
      have hhr2 := hide (show ∀ k, has (1 + 2 * n) r2 k ↔ has (1 + 2 * n) r k from fun k => by rw [hr2]; exact (has_rput (by rw [HY.out.1]; rfl)).trans (hhr1.out k))
      have y2 : r2 (2 + 2 * K) = strRow A2 n2 c2 a.vals := by rw [hr2, rput_other _ _ (by omega)]; exact HY.out.2
      have y0 : r2 0 = ⟨(r' 0).ty, (r' 0).sz, (r' 0).val, (r' 0).len, (r' 0).xs.set (K * 3) (.string (markB (k0 + L)))⟩ := by rw [hr2, rput_other _ _ (by omega), HR1.out, rput_same]
      have p2 : w2.cell? ⟨g, K * 3 + 2, none⟩ = some (.slice A2 n2 c2) := by
        have h := hbag3.own 0 (by omega)
        unfold Row.own at h
        rw [y0] at h
        have h' : w2.ownsRow B (r' 0).ty (r' 0).sz (r' 0).val (r' 0).len ((r' 0).xs.set (K * 3) (.string (markB (k0 + L)))) := h
        rw [HT.out.head.2.2.1, HT.out.head.2.2.2, HT.out.head.2.1] at h'
        rw [h'.cellAt (K * 3 + 2) (by omega), List.getElem?_set_ne (by omega)]
        exact HQ.out.2.1
      have HB3 := hide hbag3
      have HR2 := hide hr2
      have HY2 := hide (And.intro y0 y2)
      have HI2 := hide (strRow_of hbag3 (by omega) y2)
      clear ho2 hg2' hbag3 hr2 y0 y2 p0 p1 f0 hon2
      go_wp2_with (fail)
      refine (markStringS_any B A2 n2 c2 a.vals _ _ HI2.out (by omega) (by omega) (by omega)).mono ?_
      rintro e w3 ⟨rfl, ho3, hg3⟩
      have hbag4 := HB3.out.store (i := 2 + 2 * K) (s := strRow A2 n2 c2 (marksS (k0 + L + 1 + n1) n2)) (by omega) (by rw [HY2.out.2]; exact hg3) ho3 (by rw [HY2.out.2]; rfl)
      have hon4 := hide (hon3.out.trans (Only.of_grown (S := S) hg3 fun k hk => hS k ((hhr2.out k).1 ⟨2 + 2 * K, by omega, by rw [HY2.out.2]; exact hk⟩)))
      have hhr3 := hide (show ∀ k, has (1 + 2 * n) (rput r2 (2 + 2 * K) (strRow A2 n2 c2 (marksS (k0 + L + 1 + n1) n2))) k ↔ has (1 + 2 * n) r k from fun k => (has_rput (by rw [HY2.out.2]; rfl)).trans (hhr2.out k))
      have hst := hide (show (mixAttrs k0 ls K).set K (markAttrD (k0 + L) a) = mixAttrs k0 ls (K + 1) by rw [mixAttrs, ← hLs.out, ← HA.out])
      have hturn := hide (HT.out.turned (a := markAttrD (k0 + L) a) (r' := rput r2 (2 + 2 * K) (strRow A2 n2 c2 (marksS (k0 + L + 1 + n1) n2))) hlt HQ.out.1 HQ.out.2.1 HQ.out.2.2.2.2
        (by rw [rput_other _ _ (by omega), HY2.out.1]; rfl)
        (by rw [rput_other _ _ (by omega), HR2.out, rput_same, markAttrD, ← z1.out])
        (by rw [rput_same, markAttrD, ← z1.out, ← z2.out])
        (fun i hi hne => ⟨by rw [rput_other _ _ (by omega), HR2.out, rput_other _ _ (by omega), HR1.out, rput_other _ _ (by omega)], by rw [rput_other _ _ (by omega), HR2.out, rput_other _ _ (by omega), HR1.out, rput_other _ _ (by omega)]⟩))
      have HB4 := hide hbag4
      clear ho3 hg3 hbag4 p2 hon3
      go_wp2
      go_roundw
      case rel => exact ⟨K + 1, L + 1 + n1 + n2, by omega, by go_num, by go_num, hL2, e3.out.symm, ⟨_, HB4.out, hst.out ▸ hturn.out, hhr3.out⟩, hon4.out⟩
      case measure => simp [intOf]; omega
    · obtain rfl : n = K := by omega
      have hf := hide (show mixAttrs k0 ls n = marksA k0 ls by rw [marksA, ← hlen.out])
      have hl2 := hide (show L = (ls.map cntAttr).sum by rw [hLs.out]; exact lensA_all (by rw [← hlen.out]; exact Nat.le_refl _))
      go_wp2
      go_ret
      exact ⟨ret_int (by rw [hl2.out]), ⟨r', hb, hf.out ▸ ht, hhas⟩, hon⟩
end Go.Proofs.Ytjdncobdecdhmaa
