/-
  Contracts: attributes.
-/
import Derived.Test.YtjdncobdecdhmaaCutsOk
import Derived.Deep.RegionWith
namespace Go.Proofs.Ytjdncobdecdhmaa
open Go.RowKit

structure AttrD where
  name : ByteArray
  cuts : List Int
  vals : List ByteArray

/-- A right attribute. -/
def attrB (a : AttrD) : Bool := wordB a.name && (if a.cuts.length = 0 then inB a.vals.length 2 4 && wordsB a.vals else decide (a.vals.length = 0) && cutsB a.cuts)
def binsOf (a : AttrD) : Int := if attrB a = true then (if 0 < a.cuts.length then (a.cuts.length : Int) + 1 else a.vals.length) else 0

/-- The memory of an attribute whose words lie at hand. -/
structure AttrM (w : World) (A1 : Option Addr) (n1 c1 : Nat) (A2 : Option Addr) (n2 c2 : Nat) (a : AttrD) : Prop where
  cuts : Ints w A1 n1 a.cuts
  vals : Strs w A2 n2 a.vals
  name : a.name.size ≤ 1048576
  sizes : ∀ s ∈ a.vals, s.size ≤ 1048576
  b1 : n1 ≤ 1048576
  b2 : n2 ≤ 1048576
  cc : n2 ≤ c2

theorem AttrM.keep {w w' : World} {A1 A2 : Option Addr} {n1 c1 n2 c2 : Nat} {a : AttrD} (h : AttrM w A1 n1 c1 A2 n2 c2 a) (hb : Below w.heap.size w w') : AttrM w' A1 n1 c1 A2 n2 c2 a :=
  ⟨h.cuts.keep hb, h.vals.keep hb, h.name, h.sizes, h.b1, h.b2, h.cc⟩

theorem inB_split {l : List Int} {k : Nat} (hk : k < l.length) (h : inB (l[k]?.getD 0) (-9999) 9998 = false) : (l.all fun x => inB x (-9999) 9998) = false := all_badD 0 hk h

theorem attrB_few {a : AttrD} (hw : wordB a.name = true) (h : a.cuts.length = 0) : attrB a = (inB a.vals.length 2 4 && wordsB a.vals) := by
  rw [attrB, hw, if_pos h]; rfl
theorem attrB_cuts {a : AttrD} (hw : wordB a.name = true) (h : a.cuts.length ≠ 0) : attrB a = (decide (a.vals.length = 0) && cutsB a.cuts) := by
  rw [attrB, hw, if_neg h]; rfl

set_option maxRecDepth 100000 in
set_option maxHeartbeats 2000000 in
theorem specAttrOk_any (A1 : Option Addr) (n1 c1 : Nat) (A2 : Option Addr) (n2 c2 : Nat) (a : AttrD) (w : World) (h : AttrM w A1 n1 c1 A2 n2 c2 a) :
    Calls Try.prog 82 #[.agg #[.string a.name, .slice A1 n1 c1, .slice A2 n2 c2]] w fun e w' => e = .returned (.bool (attrB a)) ∧ Below w.heap.size w w' := by
  have HM := hide h
  have hn1 := h.b1
  have hn2 := h.b2
  have hl1 := hide h.cuts.1
  have hl2 := hide h.vals.1
  have hnm := h.name
  have hbox : Below w.heap.size w (w.alloc (.cells #[.string a.name, .slice A1 n1 c1, .slice A2 n2 c2] 73)) := (Below.refl _ _).alloc (Nat.le_refl _) _
  clear h
  cases hw : wordB a.name
  · have hfin := hide (show attrB a = false by rw [attrB, hw]; rfl)
    go_enter Try.func82, Try.ntmps82
    go_wp2_with (go_at_call 106; refine (specWordOk_any _ _ (by omega)).mono ?_; rintro e w' ⟨rfl, rfl⟩)
    go_ret
    exact ⟨ret_bool hfin.out.symm, hbox⟩
  · by_cases h0 : n1 = 0
    · subst h0
      have hfin := hide (attrB_few hw hl1.out.symm)
      rw [← hl2.out] at hfin
      cases h2 : inB (n2 : Int) 2 4
      · go_enter Try.func82, Try.ntmps82
        go_wp2_with (first | (go_at_call 106; refine (specWordOk_any _ _ (by omega)).mono ?_; rintro e w' ⟨rfl, rfl⟩) | (go_at_call 64; refine (l1In_any _ _ _ _).mono ?_; rintro e w' ⟨rfl, rfl⟩))
        go_ret
        exact ⟨ret_bool (by rw [hfin.out, h2]; rfl), hbox⟩
      · have HV := hide (HM.out.keep hbox)
        go_enter Try.func82, Try.ntmps82
        go_wp2_with (first | (go_at_call 106; refine (specWordOk_any _ _ (by omega)).mono ?_; rintro e w' ⟨rfl, rfl⟩) | (go_at_call 64; refine (l1In_any _ _ _ _).mono ?_; rintro e w' ⟨rfl, rfl⟩) | (go_at_call 81; refine (specWords_any A2 n2 c2 a.vals _ HV.out.vals (fun s hs => by have := HM.out.sizes s hs; omega) (by omega)).mono ?_; rintro e w' ⟨rfl, q, rfl⟩))
        go_ret
        exact ⟨ret_bool (by rw [hfin.out, h2]; rfl), below_drewN hbox _⟩
    · have hnot : a.cuts.length ≠ 0 := by have := hl1.out; omega
      have hnot := hide hnot
      have hfin := hide (attrB_cuts hw hnot.out)
      rw [← hl2.out] at hfin
      have hn1p : (0 : Int) < n1 := by omega
      have hb0 : ((n1 : Int) == 0) = false := beq_eq_false_iff_ne.2 (by omega)
      by_cases hv : 0 < n2
      · have hfin2 := hide (show attrB a = false by rw [hfin.out]; simp; omega)
        go_enter Try.func82, Try.ntmps82
        go_wp2_with (go_at_call 106; refine (specWordOk_any _ _ (by omega)).mono ?_; rintro e w' ⟨rfl, rfl⟩)
        go_ret
        exact ⟨ret_bool hfin2.out.symm, hbox⟩
      · obtain rfl : n2 = 0 := by omega
        by_cases h3 : 3 < n1
        · have hfin2 := hide (show attrB a = false by
            have : inB (a.cuts.length : Int) 1 3 = false := by rw [inB_not]; have := hl1.out; omega
            rw [hfin.out, cutsB, this]; simp)
          go_enter Try.func82, Try.ntmps82
          go_wp2_with (go_at_call 106; refine (specWordOk_any _ _ (by omega)).mono ?_; rintro e w' ⟨rfl, rfl⟩)
          go_ret
          exact ⟨ret_bool hfin2.out.symm, hbox⟩
        · have hfin2 := hide (show attrB a = (ascB a.cuts && a.cuts.all fun x => inB x (-9999) 9998) by
            have : inB (a.cuts.length : Int) 1 3 = true := by rw [inB_iff]; have := hl1.out; omega
            rw [hfin.out, cutsB, this]; simp)
          clear hfin
          go_enter Try.func82, Try.ntmps82
          go_wp2_with (go_at_call 106; refine (specWordOk_any _ _ (by omega)).mono ?_; rintro e w' ⟨rfl, rfl⟩)
          go_loopw [3] (fun i wr => ∃ k : Nat, k ≤ n1 ∧ i = .int .i64 k ∧ Hid (ascTo a.cuts k) ∧ Hid ((a.cuts.take k).all (fun x => inB x (-9999) 9998) = true) ∧ ∃ q, wr = (w.alloc (.cells #[.string a.name, .slice A1 n1 c1, .slice A2 0 c2] 73)).drewN q) (fun i _ => n1 - (intOf i).toNat)
          case atStart => exact ⟨0, Nat.zero_le _, rfl, fun i hi => by omega, show _ = _ by simp, 0, rfl⟩
          case round =>
            obtain ⟨k, hk, rfl, has, hall, q, rfl⟩ := hrel
            by_cases hlt : k < n1
            · obtain ⟨ad, rfl, hbk, hcell0⟩ := HM.out.cuts.at_ hlt
              have hkl := hide (show k < a.cuts.length by have := hl1.out; omega)
              obtain ⟨X, hX⟩ : ∃ X, X = a.cuts[k]?.getD 0 := ⟨_, rfl⟩
              rw [← hX] at hcell0
              have hcell := (hbox.cell (p := ad.add k) (by rw [block_of_add]; exact hbk)).trans hcell0
              clear hcell0
              have HX := hide hX
              clear hX
              cases hin : inB X (-9999) 9998
              · have hbad := hide (show attrB a = false by
                  rw [hfin2.out, inB_split hkl.out (by rw [← HX.out]; exact hin)]; simp)
                clear hk
                go_wp2
                go_quiet ((go_at_call 64; exact (l1In_any _ _ _ _).mono fun _ _ h => ⟨h.1.trans (ret_bool hin), _, h.2.symm⟩))
                go_wp2
                go_ret
                exact ⟨ret_bool hbad.out.symm, below_drewN (below_drewN hbox _) _⟩
              · have hall' := hide (all_stepD (p := fun x => inB x (-9999) 9998) 0 hkl.out hall.out (by rw [← HX.out]; exact hin))
                clear hall
                rcases Nat.eq_zero_or_pos k with hk0 | hk0
                · have cb : decide (0 < k) = false := by simp; omega
                  have has' := hide (show ascTo a.cuts (k + 1) from fun i hi => by omega)
                  clear hk0 has
                  go_wp2
                  go_quiet ((go_at_call 64; exact (l1In_any _ _ _ _).mono fun _ _ h => ⟨h.1.trans (ret_bool hin), _, h.2.symm⟩))
                  go_wp2
                  go_roundw
                  case rel => exact ⟨k + 1, by omega, by go_num, has', hall', _, rfl⟩
                  case measure => simp [intOf]; omega
                · have cb : decide ((0 : Int) < (k : Int)) = true := by simp; omega
                  obtain ⟨ad', e, _, hcell0⟩ := HM.out.cuts.at_ (k := k - 1) (by omega)
                  injection e with e
                  subst e
                  obtain ⟨Y, hY⟩ : ∃ Y, Y = a.cuts[k - 1]?.getD 0 := ⟨_, rfl⟩
                  rw [← hY] at hcell0
                  have hcell2 := (hbox.cell (p := ad.add (k - 1)) (by rw [block_of_add]; exact hbk)).trans hcell0
                  clear hcell0
                  have HY := hide hY
                  clear hY
                  by_cases hlt2 : Y < X
                  · have cb2 : decide (X ≤ Y) = false := by simp; omega
                    have has' := hide (ascTo_step hk0 has.out (by rw [← HX.out, ← HY.out]; exact hlt2))
                    clear has
                    go_wp2
                    go_quiet ((go_at_call 64; exact (l1In_any _ _ _ _).mono fun _ _ h => ⟨h.1.trans (ret_bool hin), _, h.2.symm⟩))
                    go_wp2
                    go_roundw
                    case rel => exact ⟨k + 1, by omega, by go_num, has', hall', _, rfl⟩
                    case measure => simp [intOf]; omega
                  · have cb2 : decide (X ≤ Y) = true := by simp; omega
                    have hbad := hide (show attrB a = false by
                      rw [hfin2.out, ascB_bad hk0 hkl.out (by rw [← HX.out, ← HY.out]; exact hlt2)]; rfl)
                    clear hk
                    go_wp2
                    go_quiet ((go_at_call 64; exact (l1In_any _ _ _ _).mono fun _ _ h => ⟨h.1.trans (ret_bool hin), _, h.2.symm⟩))
                    go_wp2
                    go_ret
                    exact ⟨ret_bool hbad.out.symm, below_drewN (below_drewN hbox _) _⟩
            · have hfin3 := hide (show attrB a = true by
                have h1 := hall.out
                rw [List.take_of_length_le (by have := hl1.out; omega)] at h1
                rw [hfin2.out, h1, show ascB a.cuts = true from ascB_iff.2 fun i hi => has.out i (by have := hl1.out; omega)]; rfl)
              clear hk
              go_wp2
              go_ret
              exact ⟨ret_bool hfin3.out.symm, below_drewN hbox _⟩
end Go.Proofs.Ytjdncobdecdhmaa
