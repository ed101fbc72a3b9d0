/-
  Contracts: marks in schemas, whole.
-/
import Derived.Test.YtjdncobdecdhmaaMarkA2
namespace Go.Proofs.Ytjdncobdecdhmaa
open Go.RowKit
set_option maxRecDepth 100000

def cntSchema (d : SchemaD) : Nat := (d.attrs.map cntAttr).sum + d.classes.length
def markSchemaD (k0 : Int) (d : SchemaD) : SchemaD := ⟨marksA k0 d.attrs, marksS (k0 + (d.attrs.map cntAttr).sum) d.classes.length⟩
theorem cntAttr_le : ∀ (l : List AttrD), (l.map cntAttr).sum ≤ wAttrs l := by
  intro l
  unfold wAttrs
  induction l with
  | nil => simp
  | cons a l ih =>
    have h : cntAttr a ≤ 1 + wAttr a := by unfold cntAttr wAttr wStrs; omega
    simp only [List.map_cons, List.sum_cons, List.length_cons]
    omega
theorem cntSchema_le (d : SchemaD) : cntSchema d ≤ wSchema d := by
  have := cntAttr_le d.attrs
  unfold cntSchema wSchema wStrs
  omega

set_option maxHeartbeats 2000000 in
theorem markSchema_any (B H : Nat) (x0 x1 : Value) (d : SchemaD) (k0 : Int) (w : World) (h : SchemaO B H w x0 x1 d) (hs : cntSchema d ≤ 1048576) (h0 : 0 ≤ k0) (h1 : k0 ≤ 1048576) :
    Calls Try.prog 24 #[.agg #[x0, x1], .int .i64 k0] w fun e w' => e = .returned (.int .i64 (k0 + cntSchema d)) ∧ SchemaO B H w' x0 x1 (markSchemaD k0 d) ∧ Only (fun j => B ≤ j ∧ j < H) w w' := by
  obtain ⟨A, n, c, D, m, k, r, rfl, rfl, hb, h0', hr, hn, hm, hz, hz2, hH⟩ := h
  have hlen : m = d.classes.length := (strs_of (strRow_of hb (by omega) h0')).1
  have hal : Below w.heap.size w (w.alloc (.cells #[.slice A n c, .slice D m k] 43)) := (Below.refl _ _).alloc (Nat.le_refl _) _
  have hX := Box2.new w (.slice A n c) (.slice D m k) 43
  obtain ⟨W, hW⟩ : ∃ W, W = w.alloc (.cells #[.slice A n c, .slice D m k] 43) := ⟨_, rfl⟩
  rw [← hW] at hX hal
  have hbW := hb.below hal
  have HB := hide hbW
  have HT := hide hr
  have H0 := hide h0'
  have HR0 := hide (strRow_of hbW (by omega) h0')
  have HH := hide hH
  have hHw := hide (show ∀ k, has (2 + 2 * n) r k → k < w.heap.size from fun k hk => (hb.lt hk).2)
  obtain ⟨L, hL⟩ : ∃ L, L = (d.attrs.map cntAttr).sum := ⟨_, rfl⟩
  have hcnt := hide (show cntSchema d = L + m by rw [cntSchema, hlen, hL])
  have hs2 : L + m ≤ 1048576 := by rw [← hcnt.out]; exact hs
  have hl1 := hide hlen
  have hLh := hide hL
  have HW := hide hW
  have hbig := hide (show (d.attrs.map cntAttr).sum ≤ 2097152 by rw [← hL]; omega)
  clear hb hr h0' hH hbW hlen hW hL
  obtain ⟨k0', k1', k2'⟩ := id hX
  go_enter Try.func24, Try.ntmps24
  go_wp2_with (fail)
  rw [← HW.out]
  refine (markAttrS_any (fun j => has (1 + 2 * n) r j) B A n c d.attrs r _ _ (HB.out.less (by omega)) HT.out (fun _ h => h) (by omega) hbig.out (by omega) (by omega)).mono ?_
  rintro e w1 ⟨rfl, ⟨r1, hb1, ht1, hh1⟩, hO1⟩
  rw [← hLh.out]
  have hlow : ∀ j, has (1 + 2 * n) r j → has (2 + 2 * n) r j := by
    rintro j ⟨i, hi, e⟩
    exact ⟨i, by omega, e⟩
  have hX1 : Box2 w1 w.heap.size (.slice A n c) (.slice D m k) :=
    ⟨(hO1.cell (p := ⟨w.heap.size, 0, none⟩) (fun hh => by have := hHw.out _ (hlow _ hh); simp at this) hX.lt).trans hX.c0, (hO1.cell (p := ⟨w.heap.size, 1, none⟩) (fun hh => by have := hHw.out _ (hlow _ hh); simp at this) hX.lt).trans hX.c1, Nat.lt_of_lt_of_le hX.lt hO1.size⟩
  have hdis : ∀ i, i < 1 + 2 * n → ∀ j, (r i).blk = some j → (strRow D m k d.classes).blk ≠ some j := by
    intro i hi j hj e
    rcases HB.out.sep i (1 + 2 * n) (by omega) (by omega) (by omega) with q | q
    · rw [q] at hj; cases hj
    · rw [H0.out, hj] at q
      exact q e.symm
  have hrow1 : w1.ownsRow B 9 1 (.slice D m k) m (d.classes.map Value.string) := by
    refine own_only HR0.out hO1 fun j hj hh => ?_
    obtain ⟨i, hi, e⟩ := hh
    exact hdis i hi j e hj
  have HB1 := hide hb1
  have HT1 := hide ht1
  have HH1 := hide hh1
  have HO1 := hide hO1
  have HR1 := hide hrow1
  have HD := hide hdis
  have HLow := hide hlow
  clear hb1 ht1 hh1 hO1 hrow1 hX k0' k1' k2' hdis hlow
  obtain ⟨k0', k1', k2'⟩ := hX1
  go_wp2_with (fail)
  refine (markStringS_any B D m k d.classes _ _ HR1.out (by omega) (by omega) (by omega)).mono ?_
  rintro e w2 ⟨rfl, ho2, hg2⟩
  have hOg : Only (fun j => (strRow D m k d.classes).blk = some j) w1 w2 := Only.of_grown hg2 fun k hk => hk
  have hb2 : Bag B (1 + 2 * n) w2 r1 := HB1.out.only hOg fun j hj hh => by
    obtain ⟨i, hi, e⟩ := (HH1.out j).1 hj
    exact HD.out i hi j e hh
  have hO2 : Only (fun j => has (2 + 2 * n) r j) W w2 := (HO1.out.mono HLow.out).trans (hOg.mono fun j hj => ⟨1 + 2 * n, by omega, by rw [H0.out]; exact hj⟩)
  have hkey : ∀ i, i < 1 + 2 * n → (strRow D m k (marksS (k0 + L) m)).apart (r1 i) := by
    intro i hi
    unfold Row.apart
    rcases hbk : (strRow D m k (marksS (k0 + L) m)).blk with _ | g
    · exact .inl rfl
    · refine .inr fun e => ?_
      obtain ⟨i2, hi2, e2⟩ := (HH1.out g).1 ⟨i, hi, e.symm⟩
      exact HD.out i2 hi2 g e2 hbk
  have hfin : SchemaO B H w2 (.slice A n c) (.slice D m k) (markSchemaD k0 d) := by
    refine ⟨A, n, c, D, m, k, rput r1 (1 + 2 * n) (strRow D m k (marksS (k0 + L) m)), rfl, rfl, ?_, ?_, ?_, hn, hm, ?_, ?_, ?_⟩
    · refine ⟨fun i hi => ?_, fun i j hi hj hij => ?_⟩
      · by_cases e : i = 1 + 2 * n
        · subst e; rw [rput_same]; exact ho2
        · rw [rput_other _ _ e]; exact hb2.own i (by omega)
      · by_cases e : i = 1 + 2 * n
        · subst e
          rw [rput_same, rput_other _ _ (Ne.symm hij)]
          exact hkey j (by omega)
        · rw [rput_other _ _ e]
          by_cases e2 : j = 1 + 2 * n
          · subst e2
            rw [rput_same]
            exact (hkey i (by omega)).symm
          · rw [rput_other _ _ e2]
            exact hb2.sep i j (by omega) (by omega) hij
    · rw [rput_same, markSchemaD, ← hLh.out, ← hl1.out]
    · exact HT1.out.congr fun i hi => rput_other _ _ (by omega)
    · exact marksA_small hz (by rw [← hLh.out]; omega)
    · intro s hs
      simp only [markSchemaD, marksS, List.mem_map, List.mem_range] at hs
      obtain ⟨i, hi, rfl⟩ := hs
      refine markB_size _ ?_
      rw [← hLh.out]
      have := hl1.out
      omega
    · rintro j ⟨i, hi, e⟩
      by_cases q : i = 1 + 2 * n
      · subst q
        rw [rput_same] at e
        exact HH.out j ⟨1 + 2 * n, by omega, by rw [H0.out]; exact e⟩
      · rw [rput_other _ _ q] at e
        exact HH.out j (HLow.out j ((HH1.out j).1 ⟨i, by omega, e⟩))
  have hOnly : Only (fun j => B ≤ j ∧ j < H) w w2 := (Only.of_below (by rw [HW.out]; exact (Below.refl _ _).alloc (Nat.le_refl _) _)).trans (hO2.mono fun j hj => ⟨(HB.out.lt hj).1, HH.out j hj⟩)
  clear hO2 hOg hb2 ho2 hg2 hkey
  go_wp2
  go_ret
  exact ⟨ret_int (by rw [hcnt.out]; omega), hfin, hOnly⟩
end Go.Proofs.Ytjdncobdecdhmaa
