/-
  Contracts: sorting, the reference's side.
-/
import Derived.Test.YtjdncobdecdhmaaSortP
import Derived.Test.YtjdncobdecdhmaaApp
namespace Go.Proofs.Ytjdncobdecdhmaa
open Go.RowKit
set_option maxRecDepth 100000

theorem one_ints (l : List Int) : ∀ u ∈ l.map (Value.int .i64), u.oneCell' = true := by
  intro u hu
  obtain ⟨x, _, rfl⟩ := List.mem_map.1 hu
  rfl
theorem drop_cells {w : World} {ad : Addr} {n j : Nat} {l : List Int} (h : Ints w (some ad) n l) : ∀ i u, ((l.drop j).map (Value.int .i64))[i]? = some u → ∃ a, some (ad.add j) = some a ∧ w.cell? (a.add i) = some u := by
  intro i u hu
  have hi : i < (l.drop j).length := by
    rcases Nat.lt_or_ge i (l.drop j).length with h | h
    · exact h
    · rw [List.getElem?_eq_none (by simpa using h)] at hu; cases hu
  rw [List.length_drop] at hi
  rw [List.getElem?_map, List.getElem?_drop] at hu
  obtain ⟨a, e, _, hc⟩ := h.at_ (k := j + i) (by have := h.1; omega)
  injection e with e
  subst e
  rw [List.getElem?_eq_getElem (by omega), Option.map_some] at hu
  injection hu with hu
  refine ⟨ad.add j, rfl, ?_⟩
  rw [add_of_add, hc, ← hu, List.getElem?_eq_getElem (by omega)]
  rfl

theorem insAt_row {w : World} {B : Nat} {v : Value} {L : List Int} {x : Int} {j k : Nat} (hk : L.length = k) (hj : j ≤ L.length)
    (h : w.ownsRow B 3 1 v (j + 1 + (k - j)) ((L.take j).map (Value.int .i64) ++ [.int .i64 x] ++ (L.drop j).map (Value.int .i64))) : w.ownsRow B 3 1 v (k + 1) ((insAt L x j).map (Value.int .i64)) := by
  rw [show j + 1 + (k - j) = k + 1 by omega] at h
  unfold insAt
  rw [List.map_append, List.map_append]
  exact h
theorem own_shape2 {w : World} {B : Nat} {e : TypeId} {sz n : Nat} {v : Value} {xs : List Value} (h : w.ownsRow B e sz v n xs) (hn : 0 < n) : ∃ ad m, v = .slice (some ad) n m ∧ n ≤ m ∧ m ≤ maxLen := by
  rcases h.2 with ⟨_, h0⟩ | ⟨g, cap, cur, hv, hb, hg, hnc, hcm, _⟩
  · omega
  · exact ⟨_, cap, hv, hnc, hcm⟩

set_option maxHeartbeats 4000000 in
theorem specSorted_any (A : Option Addr) (n c : Nat) (l : List Int) (w : World) (hl : Ints w A n l) (hn : n ≤ 2097152) :
    Calls Try.prog 12 #[.slice A n c] w fun e w' => ∃ D n' m, e = .returned (.slice D n' m) ∧ OwnI w.heap.size w' (.slice D n' m) (sortI l) ∧ n' = (sortI l).length ∧ Below w.heap.size w w' := by
  have HL := hide hl
  have hlen := hide hl.1
  clear hl
  go_enter Try.func12, Try.ntmps12
  go_wp2
  have hown0 := own_empty w w.heap.size 3 1 (Nat.le_refl _)
  go_loopw [3, 4] (fun v i wr => ∃ (k : Nat) (L : List Int), k ≤ n ∧ i = .int .i64 k ∧ Hid (up L ∧ L.Perm (l.take k)) ∧ (∃ ad m, v = .slice (some ad) k m ∧ k ≤ m ∧ m ≤ maxLen) ∧ wr.ownsRow w.heap.size 3 1 v k (L.map (Value.int .i64)) ∧ Below w.heap.size w wr) (fun _ i _ => n - (intOf i).toNat)
  case atStart => exact ⟨0, [], Nat.zero_le _, rfl, ⟨List.Pairwise.nil, by simp⟩, ⟨_, _, rfl, Nat.le_refl _, by simp [maxLen]⟩, hown0, (Below.refl _ _).alloc (Nat.le_refl _) _⟩
  case round =>
    clear hown0
    obtain ⟨k, L, hk, rfl, hL, ⟨ad, m, rfl, hkm, hmm⟩, hown, hbel⟩ := hrel
    unfold maxLen at hmm
    have hsz := hbel.size
    by_cases hlt : k < n
    · obtain ⟨adl, rfl, hbl, hcell⟩ := (HL.out).at_ hlt
      obtain ⟨x, hx⟩ : ∃ x, x = l[k]?.getD 0 := ⟨_, rfl⟩
      rw [← hx] at hcell
      have HX := hide hx
      clear hx
      have hc1 := (hbel.cell (p := adl.add k) (by rw [block_of_add]; exact hbl)).trans hcell
      have HO := hide hown
      clear hcell
      go_wp2
      go_loopw [5] (fun a wq => ∃ j : Nat, j ≤ k ∧ a = .int .i64 j ∧ Hid (∀ y ∈ L.drop j, x < y) ∧ ∃ q, wq = wr.drewN q) (fun a _ => (intOf a).toNat)
      case atStart => exact ⟨k, Nat.le_refl _, rfl, (fun y hy => by rw [List.drop_eq_nil_of_le (by have := HO.out.1; simp at this; omega)] at hy; cases hy), 0, rfl⟩
      case round =>
        obtain ⟨j, hj, rfl, habove, q, rfl⟩ := hrel
        have hjL := hide (show j ≤ L.length by have := HO.out.1; simp at this; omega)
        have stop : (0 < j ∧ x < L[j - 1]?.getD 0) ∨ (0 < j ∧ L[j - 1]?.getD 0 ≤ x) ∨ j = 0 := by omega
        rcases stop with ⟨hj0, hxy⟩ | stop
        · obtain ⟨ad', e, hadb, hcell2⟩ := (ints_of HO.out).at_ (k := j - 1) (by omega)
          injection e with e
          subst e
          have hab' := hide (above_step (L := L) (x := x) (k := j - 1) (by have := hjL.out; omega) (by rw [show j - 1 + 1 = j by omega]; exact habove.out) hxy)
          obtain ⟨y, hy⟩ : ∃ y, y = L[j - 1]?.getD 0 := ⟨_, rfl⟩
          rw [← hy] at hcell2 hxy
          clear hy
          go_wp2
          go_quiet (fail)
          go_wp2
          go_roundw
          case rel => exact ⟨j - 1, by omega, by rw [show ((j - 1 : Nat) : Int) = (j : Int) - 1 by omega], hab', _, rfl⟩
          case measure => simp [intOf]; omega
        · have hstop := hide (up_ahead (x := x) hL.out.1 hjL.out (by omega))
          rcases stop with ⟨hj0, hxy⟩ | hj0
          case' inl =>
            obtain ⟨ad', e, hadb, hcell2⟩ := (ints_of HO.out).at_ (k := j - 1) (by omega)
            injection e with e
            subst e
            obtain ⟨y, hy⟩ : ∃ y, y = L[j - 1]?.getD 0 := ⟨_, rfl⟩
            rw [← hy] at hcell2 hxy
            clear hy
            have hnx : decide (x < y) = false := by simp; omega
            go_wp2
            go_quiet (fail)
            clear hcell2
          case' inr =>
            have hj0' : decide (0 < j) = false := by simp [hj0]
            clear hj0
            go_wp2
            go_quiet (fail)
            clear hj0'
          all_goals
            obtain ⟨W, hW⟩ : ∃ W, W = (wr.drewN q).drewN nq := ⟨_, rfl⟩
            have hWb : Below wr.heap.size wr W := by rw [hW]; exact below_drewN (below_drewN (Below.refl _ _) _) _
            rw [← hW]
            have hownW := own_below HO.out hWb
            have hbelW := hbel.trans (hWb.mono hsz)
            have hszW : w.heap.size ≤ W.heap.size := hbelW.size
            have hszw : wr.heap.size ≤ W.heap.size := hWb.size
            have hcW := (hWb.cell (p := adl.add k) (by rw [block_of_add]; omega)).trans hc1
            clear hW hWb hc1 hown
            have HI := hide (ints_of hownW)
            have hal : Below W.heap.size W (W.alloc (.cells #[] 3)) := (Below.refl _ _).alloc (Nat.le_refl _) _
            have HC1 := hide (Ints.cells (slc_take ((HI.out).keep hal) hj))
            have hown1 := own_empty W w.heap.size 3 1 hszW
            go_wp2_with (at_builtin; go_must (refine wpList_append_src _ rfl _ _ 28 rfl w.heap.size 3 (.int .i64 0) 1 8 Try.underlying28 infoI rfl (by decide) _ 0 _ ((L.take j).map (Value.int .i64)) rfl hown1 (some ad) j m rfl (by have := HO.out.1; simp at this; simp; omega) HC1.out (one_ints _) (by unfold maxLen; omega) (by omega) (by simp; omega) ?_); intro v1 w1 hv1 _ hg1 hq1; refine Hid.out ?_)
            replace hg1 : (W.alloc (.cells #[] 3)).grownBy w1 (some W.heap.size) := hg1
            replace hq1 : ∀ g, v1.ownBlock = some g → some W.heap.size = some g ∨ (W.alloc (.cells #[] 3)).heap.size ≤ g := hq1
            have hbW1 : Below W.heap.size W w1 := hal.grown hg1 (by simp) (by simp)
            have hq1' := hide (show ∀ g, v1.ownBlock = some g → W.heap.size ≤ g from fun g hg => by
              rcases hq1 g hg with h | h
              · have h : W.heap.size = g := by simpa using h
                omega
              · have h : W.heap.size + 1 ≤ g := by simpa using h
                omega)
            have hcx := (hbW1.cell (p := adl.add k) (by rw [block_of_add]; omega)).trans hcW
            have hz1 := hbW1.size
            rw [Nat.zero_add, List.nil_append] at hv1
            obtain ⟨D1, m1, rfl⟩ := own_shape hv1
            have hv1' := hide hv1
            clear hg1 hq1 hown1 hal
            refine hide ?_
            go_wp2_with (at_builtin; go_must (refine wpList_append_one w1 rfl _ _ 28 rfl w.heap.size 3 (.int .i64 0) 1 8 Try.underlying28 infoI rfl (by decide) _ j _ [.int .i64 x] rfl hv1'.out _ rfl rfl (by simp [Value.oneCell']) rfl (by unfold maxLen; omega) (by omega) (by omega) ?_); intro v2 w2 hv2 _ hq2 hg2; refine Hid.out ?_)
            have hbW2 : Below W.heap.size W w2 := hbW1.grown hg2 hz1 (fun g hg => hq1'.out g hg)
            have hq2' := hide (show ∀ g, v2.ownBlock = some g → W.heap.size ≤ g from fun g hg => by
              rcases hq2 g hg with h | h
              · exact hq1'.out g h
              · omega)
            have hz2 := hbW2.size
            obtain ⟨D2, m2, rfl⟩ := own_shape hv2
            have hv2' := hide hv2
            have HC3 := hide (drop_cells (j := j) (HI.out.keep hbW2))
            clear hv1 hv1' hcx hcW hq1' hg2 hq2 hv2
            refine hide ?_
            have hkL := hide (show L.length = k by have := HO.out.1; simp at this; omega)
            by_cases hmj : m = j
            case' pos =>
              have hjk : k - j = 0 := by omega
              have hdr := hide (show (L.drop j).map (Value.int .i64) = [] by rw [List.drop_eq_nil_of_le (by have := hkL.out; omega)]; rfl)
              have hjk' : (k : Int) - j = 0 := by omega
              go_wp2_with (at_builtin; go_must (refine wpList_append_src w2 rfl _ _ 28 rfl w.heap.size 3 (.int .i64 0) 1 8 Try.underlying28 infoI rfl (by decide) _ (j + 1) _ ([]) rfl hv2'.out _ 0 _ rfl (by rfl) (fun j u hu => by simp at hu) (by simp) (by unfold maxLen; omega) (by omega) (by omega) ?_); intro v3 w3 hv3 _ hg3 hq3; refine Hid.out ?_)
              replace hv3 : w3.ownsRow w.heap.size 3 1 v3 (j + 1 + (k - j)) ((L.take j).map (Value.int .i64) ++ [.int .i64 x] ++ (L.drop j).map (Value.int .i64)) := by rw [hdr.out, show j + 1 + (k - j) = j + 1 + 0 by omega]; exact hv3
            case' neg =>
              go_wp2_with (at_builtin; go_must (refine wpList_append_src w2 rfl _ _ 28 rfl w.heap.size 3 (.int .i64 0) 1 8 Try.underlying28 infoI rfl (by decide) _ (j + 1) _ ((L.drop j).map (Value.int .i64)) rfl hv2'.out _ (k - j) _ rfl (by have := hkL.out; simp; omega) HC3.out (by exact one_ints _) (by unfold maxLen; omega) (by omega) (by omega) ?_); intro v3 w3 hv3 _ hg3 hq3; refine Hid.out ?_)
            all_goals
              have hv := hide (insAt_row hkL.out hjL.out hv3)
              replace hg3 : w2.grownBy w3 (Value.slice D2 (j + 1) m2).ownBlock := hg3
              have hbW3 : Below W.heap.size W w3 := hbW2.grown hg3 hz2 (fun g hg => hq2'.out g hg)
              have hbel3 := hbelW.trans (hbW3.mono hszW)
              have hUP := hide (And.intro (insAt_up hL.out.1 habove.out hstop.out) (show (insAt L x j).Perm (l.take (k + 1)) by rw [take_snoc_getD l k (by have := hlen.out; omega), ← HX.out]; exact insAt_perm.trans (hL.out.2.append_right _)))
              clear hv3 hg3 hq3 hv2' HC3 hbW2 hq2'
              refine hide ?_
              go_wp2
              go_roundw
              case rel => exact ⟨k + 1, _, by omega, by go_num, hUP, own_shape2 hv.out (by omega), hv.out, hbel3⟩
              case measure => simp [intOf]; omega
    · obtain rfl : k = n := by omega
      have hfin := hide (show L = sortI l from sortI_of hL.out.1 (by have := hL.out.2; rwa [List.take_of_length_le (by have := hlen.out; omega)] at this))
      have hLl := hide (show L.length = k by have := hown.1; simpa using this)
      go_wp2
      go_ret
      refine ⟨_, _, _, rfl, ?_, by rw [← hfin.out, hLl.out], hbel⟩
      rw [← hfin.out]
      show World.ownsRow _ _ _ _ _ _ _
      rw [hLl.out]
      exact hown
end Go.Proofs.Ytjdncobdecdhmaa
