/-
  Contracts: marks in statistics.
-/
import Derived.Test.YtjdncobdecdhmaaClone
namespace Go.Proofs.Ytjdncobdecdhmaa
open Go.RowKit
set_option maxRecDepth 100000

def lens (ls : List (List Int)) (K : Nat) : Nat := ((ls.take K).map List.length).sum
theorem lens_step {ls : List (List Int)} {K : Nat} (h : K < ls.length) : lens ls (K + 1) = lens ls K + (ls[K]?.getD []).length := sum_take h []
theorem lens_le {ls : List (List Int)} {K : Nat} : lens ls K ≤ (ls.map List.length).sum := by
  unfold lens
  conv => rhs; rw [← List.take_append_drop K ls, List.map_append, List.sum_append]
  omega
theorem lens_all {ls : List (List Int)} {K : Nat} (h : ls.length ≤ K) : lens ls K = (ls.map List.length).sum := by unfold lens; rw [List.take_of_length_le h]
def mixRows (k0 : Int) (ls : List (List Int)) : Nat → List (List Int)
  | 0 => ls
  | K + 1 => (mixRows k0 ls K).set K (marksI (k0 + lens ls K) (ls[K]?.getD []).length)
def marksR (k0 : Int) (ls : List (List Int)) : List (List Int) := mixRows k0 ls ls.length
theorem mixRows_len (k0 : Int) (ls : List (List Int)) (K : Nat) : (mixRows k0 ls K).length = ls.length := by
  induction K with
  | zero => rfl
  | succ K ih => rw [mixRows, List.length_set, ih]
theorem mixRows_old {k0 : Int} {ls : List (List Int)} {K j : Nat} (h : K ≤ j) : (mixRows k0 ls K)[j]? = ls[j]? := by
  induction K with
  | zero => rfl
  | succ K ih => rw [mixRows, List.getElem?_set_ne (by omega), ih (by omega)]
theorem mixRows_new {k0 : Int} {ls : List (List Int)} {K j : Nat} (h : j < K) (hj : j < ls.length) : (mixRows k0 ls K)[j]?.getD [] = marksI (k0 + lens ls j) (ls[j]?.getD []).length := by
  induction K with
  | zero => omega
  | succ K ih =>
    rw [mixRows]
    by_cases e : j = K
    · subst e
      rw [List.getElem?_set_self (by rw [mixRows_len]; exact hj)]; rfl
    · rw [List.getElem?_set_ne (by omega)]
      exact ih (by omega)
theorem marksR_len (k0 : Int) (ls : List (List Int)) : (marksR k0 ls).length = ls.length := mixRows_len _ _ _
/-- A row marked. -/
theorem RowsTo.mark {B N : Nat} {w w1 : World} {r : Nat → Row} {A : Option Addr} {n c i : Nat} {ls : List (List Int)} {x : List Int} (h : RowsTo r A n c ls n) (hb : Bag B N w r) (hi : i < n) (hN : n < N)
    {A' : Option Addr} {n' c' : Nat} (hr : r (i + 1) = intRow A' n' c' (ls[i]?.getD [])) (ho : w1.ownsRow B 3 1 (.slice A' n' c') n' (x.map (Value.int .i64))) (hg : w.grownBy w1 (Value.ownBlock (.slice A' n' c'))) :
    Bag B N w1 (rput r (i + 1) (intRow A' n' c' x)) ∧ RowsTo (rput r (i + 1) (intRow A' n' c' x)) A n c (ls.set i x) n := by
  refine ⟨hb.store (by omega) (by rw [hr]; exact hg) ho (by rw [hr]; rfl), ?_⟩
  refine ⟨by rw [List.length_set]; exact h.len, ?_, fun j hj => ?_⟩
  · rw [rput_other _ _ (show 0 ≠ i + 1 by omega)]; exact h.head
  · rw [rput_other _ _ (show 0 ≠ i + 1 by omega)]
    by_cases e : j = i
    · subst e
      obtain ⟨A2, n2, c2, k1, k2⟩ := h.rows j hj
      rw [hr] at k2
      have hv := congrArg Row.val k2
      have hv' : Value.slice A' n' c' = .slice A2 n2 c2 := hv
      injection hv' with e1 e2 e3
      subst e1 e2 e3
      rw [rput_same]
      exact ⟨A', n', c', k1, by rw [List.getElem?_set_self (by rw [← h.len]; exact hj)]; rfl⟩
    · obtain ⟨A2, n2, c2, k1, k2⟩ := h.rows j hj
      rw [rput_other _ _ (by omega), List.getElem?_set_ne (by omega)]
      exact ⟨A2, n2, c2, k1, k2⟩
theorem Bag.rowOf {B N : Nat} {w : World} {r : Nat → Row} (hb : Bag B N w r) {i : Nat} (hi : i < N) {A' : Option Addr} {n' c' : Nat} {l : List Int} (hr : r i = intRow A' n' c' l) : w.ownsRow B 3 1 (.slice A' n' c') n' (l.map (Value.int .i64)) := by
  have := hb.own i hi
  rw [hr] at this
  exact this
set_option maxHeartbeats 1000000 in
theorem markIntSS_any (S : Nat → Prop) (B : Nat) (A : Option Addr) (n c : Nat) (ls : List (List Int)) (r : Nat → Row) (k0 : Int) (w : World) (hb : Bag B (1 + n) w r) (ht : RowsTo r A n c ls n) (hS : ∀ k, has (1 + n) r k → S k)
    (hn : n ≤ 1048576) (hs : (ls.map List.length).sum ≤ 2097152) (h0 : 0 ≤ k0) (h1 : k0 ≤ 1073741824) :
    Calls Try.prog 62 #[.slice A n c, .int .i64 k0] w fun e w' => e = .returned (.int .i64 (k0 + (ls.map List.length).sum)) ∧
      (∃ r', Bag B (1 + n) w' r' ∧ RowsTo r' A n c (marksR k0 ls) n ∧ ∀ k, has (1 + n) r' k ↔ has (1 + n) r k) ∧ Only S w w' := by
  have hlen := hide ht.len
  have HB := hide hb
  have HT := hide ht
  clear hb ht
  go_enter Try.func62, Try.ntmps62
  go_wp2
  go_loopw [1, 5] (fun v i wr => ∃ (K L : Nat), K ≤ n ∧ i = .int .i64 K ∧ v = .int .i64 (k0 + L) ∧ L ≤ 2097152 ∧ Hid (L = lens ls K) ∧ (∃ r', Bag B (1 + n) wr r' ∧ RowsTo r' A n c (mixRows k0 ls K) n ∧ ∀ k, has (1 + n) r' k ↔ has (1 + n) r k) ∧ Only S w wr) (fun _ i _ => n - (intOf i).toNat)
  case atStart => exact ⟨0, 0, Nat.zero_le _, rfl, by simp, by omega, show _ = _ by simp [lens], ⟨r, HB.out, HT.out, fun _ => Iff.rfl⟩, Only.refl _ _⟩
  case round =>
    clear HB HT
    obtain ⟨K, L, hk, rfl, rfl, hL, hLs, ⟨r', hb, ht, hhas⟩, hon⟩ := hrel
    by_cases hlt : K < n
    · have HH := hide hhas
      clear hhas
      obtain ⟨A', n', c', q1, q2⟩ := ht.rows K hlt
      have hO := ht.outer hb (by omega)
      obtain ⟨g, rfl, hg1, hg2⟩ := own_form hO (by omega)
      have hcell := (hO.cellAt K (by omega)).trans q1
      have hro := hb.rowOf (show K + 1 < 1 + n by omega) q2
      have hkl := hide (show K < ls.length by rw [← hlen.out]; exact hlt)
      have e1 := hide (show (mixRows k0 ls K)[K]?.getD [] = ls[K]?.getD [] by rw [mixRows_old (Nat.le_refl _)])
      have e2 := hide (show n' = (ls[K]?.getD []).length by have := (ints_of hro).1; rw [e1.out] at this; exact this)
      have e3 := hide (show lens ls (K + 1) = L + n' by rw [lens_step hkl.out, ← hLs.out, ← e2.out])
      have hL2 : L + n' ≤ 2097152 := by rw [← e3.out]; exact Nat.le_trans lens_le hs
      have HB := hide hb
      have HT := hide ht
      have HQ := hide q2
      have HR := hide hro
      clear hb ht q1 q2 hro hO
      go_wp2_with (fail)
      refine (markIntS_any B A' n' c' _ _ _ HR.out (by omega) (by omega) (by omega)).mono ?_
      rintro e w2 ⟨rfl, ho2, hgr⟩
      have hm := hide (HT.out.mark (i := K) (x := marksI (k0 + L) n') HB.out hlt (by omega) HQ.out ho2 hgr)
      have hon2 := hide (hon.trans (Only.of_grown (S := S) hgr fun k hk => hS k ((HH.out k).1 ⟨K + 1, by omega, by rw [HQ.out]; exact hk⟩)))
      have hh2 := hide (show ∀ k, has (1 + n) (rput r' (K + 1) (intRow A' n' c' (marksI (k0 + L) n'))) k ↔ has (1 + n) r k from fun k => (has_rput (by rw [HQ.out]; rfl)).trans (HH.out k))
      have hst := hide (show (mixRows k0 ls K).set K (marksI (k0 + L) n') = mixRows k0 ls (K + 1) by rw [mixRows, ← e2.out, ← hLs.out])
      clear ho2 hgr hon
      go_wp2
      go_roundw
      case rel => exact ⟨K + 1, L + n', by omega, by go_num, by go_num, hL2, e3.out.symm, ⟨_, hm.out.1, hst.out ▸ hm.out.2, hh2.out⟩, hon2.out⟩
      case measure => simp [intOf]; omega
    · obtain rfl : n = K := by omega
      have hf := hide (show mixRows k0 ls n = marksR k0 ls by rw [marksR, ← hlen.out])
      have hl2 := hide (show L = (ls.map List.length).sum by rw [hLs.out]; exact lens_all (by rw [← hlen.out]; exact Nat.le_refl _))
      go_wp2
      go_ret
      exact ⟨ret_int (by rw [hl2.out]), ⟨r', hb, hf.out ▸ ht, hhas⟩, hon⟩

set_option maxHeartbeats 1000000 in
theorem heldIntSS_any (A : Option Addr) (n c : Nat) (ls : List (List Int)) (k0 : Int) (w : World) (hl : RowsM w A n (marksR k0 ls))
    (hs : (ls.map List.length).sum ≤ 2097152) (hn : n ≤ 1048576) (h0 : 0 ≤ k0) (h1 : k0 ≤ 1073741824) :
    Calls Try.prog 63 #[.slice A n c, .int .i64 k0] w fun e w' => e = .returned (.int .i64 (k0 + (ls.map List.length).sum)) ∧ w = w' := by
  have HL := hide hl
  have hlen := hide (show n = ls.length by rw [hl.1, marksR_len])
  clear hl
  go_enter Try.func63, Try.ntmps63
  go_wp2
  go_loop [1, 5] (fun v i => ∃ (K L : Nat), K ≤ n ∧ i = .int .i64 K ∧ v = .int .i64 (k0 + L) ∧ L ≤ 2097152 ∧ Hid (L = lens ls K)) (fun _ i => n - (intOf i).toNat)
  case atStart => exact ⟨0, 0, Nat.zero_le _, rfl, by simp, by omega, show _ = _ by simp [lens]⟩
  case round =>
    obtain ⟨K, L, hk, rfl, rfl, hL, hLs⟩ := hrel
    by_cases hlt : K < n
    · obtain ⟨ad, A', n', c', rfl, _, hcell, hn', hI⟩ := HL.out.at_ hlt
      have hkl := hide (show K < ls.length by rw [← hlen.out]; exact hlt)
      have e1 := hide (show (marksR k0 ls)[K]?.getD [] = marksI (k0 + L) (ls[K]?.getD []).length by rw [marksR, mixRows_new hkl.out hkl.out, ← hLs.out])
      rw [e1.out] at hI
      have e2 := hide (show n' = (ls[K]?.getD []).length by have := hI.1; rwa [marksI_len] at this)
      rw [← e2.out] at hI
      have HI := hide hI
      have e3 := hide (show lens ls (K + 1) = L + n' by rw [lens_step hkl.out, ← hLs.out, ← e2.out])
      have hL2 : L + n' ≤ 2097152 := by rw [← e3.out]; exact Nat.le_trans lens_le hs
      clear hI
      go_wp2_with (fail)
      refine (heldIntS_any A' n' c' _ _ HI.out (by omega) (by omega) (by omega)).mono ?_
      rintro e w2 ⟨rfl, rfl⟩
      go_wp2
      go_round
      case rel => exact ⟨K + 1, L + n', by omega, by go_num, by go_num, hL2, e3.out.symm⟩
      case measure => simp [intOf]; omega
    · obtain rfl : n = K := by omega
      have hl2 := hide (show L = (ls.map List.length).sum by rw [hLs.out]; exact lens_all (by rw [← hlen.out]; exact Nat.le_refl _))
      go_wp2
      go_ret
      exact ⟨ret_int (by rw [hl2.out]), rfl⟩

def cntStats (d : StatsD) : Nat := d.totals.length + (d.cells.map List.length).sum
def markStatsD (k0 : Int) (d : StatsD) : StatsD := ⟨marksI k0 d.totals.length, marksR (k0 + d.totals.length) d.cells⟩
end Go.Proofs.Ytjdncobdecdhmaa
