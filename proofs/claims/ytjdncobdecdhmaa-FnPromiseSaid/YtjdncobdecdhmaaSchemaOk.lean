/-
  Contracts: right schemas.
-/
import Derived.Test.YtjdncobdecdhmaaSchema4
namespace Go.Proofs.Ytjdncobdecdhmaa
open Go.RowKit
set_option maxRecDepth 100000

theorem own_len {w : World} {B : Nat} {e : TypeId} {sz n m c : Nat} {A : Option Addr} {xs : List Value} (h : w.ownsRow B e sz (.slice A n c) m xs) : n = m := by
  rcases h.2 with ⟨hv, h0⟩ | ⟨g, cap, cur, hv, _⟩
  · injection hv with _ h2 _; omega
  · injection hv with _ h2 _
def namesOf (d : SchemaD) : List ByteArray := d.attrs.map AttrD.name
/-- A right schema. -/
def schemaB (d : SchemaD) : Bool := inB d.attrs.length 1 5 && (inB d.classes.length 2 3 && (wordsB d.classes && (d.attrs.all attrB && decide (namesOf d).Nodup)))
theorem attrB_word {a : AttrD} (h : attrB a = true) : wordB a.name = true := by
  unfold attrB at h
  cases hw : wordB a.name
  · rw [hw] at h; simp at h
  · rfl
theorem name_at {d : SchemaD} {k : Nat} (hk : k < d.attrs.length) : (namesOf d)[k]?.getD ByteArray.empty = (d.attrs[k]?.getD default).name := by
  unfold namesOf; simp [hk]
theorem names_len (d : SchemaD) : (namesOf d).length = d.attrs.length := by simp [namesOf]
theorem schemaB_attrs {d : SchemaD} (h1 : inB d.attrs.length 1 5 = true) (h2 : inB d.classes.length 2 3 = true) (h3 : wordsB d.classes = true) : schemaB d = (d.attrs.all attrB && decide (namesOf d).Nodup) := by
  rw [schemaB, h1, h2, h3]; rfl
theorem schemaB_bad {d : SchemaD} {k : Nat} (hk : k < d.attrs.length) (h : attrB (d.attrs[k]?.getD default) = false) : schemaB d = false := by
  rw [schemaB, all_badD default hk h]; simp
theorem schemaB_twice {d : SchemaD} {k : Nat} (hk : k < d.attrs.length) (h : (d.attrs[k]?.getD default).name ∈ (namesOf d).take k) : schemaB d = false := by
  have h1 := words_twice (l := namesOf d) (k := k) (by rw [names_len]; exact hk) (by rw [name_at hk]; exact h)
  have : (d.attrs.all attrB && decide (namesOf d).Nodup) = false := by
    cases ha : d.attrs.all attrB
    · rfl
    · cases hn : decide (namesOf d).Nodup
      · rfl
      · exfalso
        rw [wordsB, hn] at h1
        have : (namesOf d).all wordB = true := by
          rw [List.all_eq_true] at ha ⊢
          intro x hx
          unfold namesOf at hx
          obtain ⟨a, h2, rfl⟩ := List.mem_map.1 hx
          exact attrB_word (ha a h2)
        rw [this] at h1
        simp at h1
  rw [schemaB, this]; simp
theorem schemaB_all {d : SchemaD} {k : Nat} (h1 : inB d.attrs.length 1 5 = true) (h2 : inB d.classes.length 2 3 = true) (h3 : wordsB d.classes = true) (hk : d.attrs.length ≤ k) (h4 : (d.attrs.take k).all attrB = true) (h5 : ((namesOf d).take k).Nodup) : schemaB d = true := by
  rw [schemaB_attrs h1 h2 h3]
  rw [List.take_of_length_le hk] at h4
  rw [List.take_of_length_le (by rw [names_len]; exact hk)] at h5
  rw [h4]; simp [h5]
theorem schemaB_words {d : SchemaD} (h1 : inB d.attrs.length 1 5 = true) (h2 : inB d.classes.length 2 3 = true) (h3 : wordsB d.classes = true) (h4 : d.attrs.all attrB = true) : schemaB d = wordsB (namesOf d) := by
  rw [schemaB_attrs h1 h2 h3, h4, wordsB]
  have : (namesOf d).all wordB = true := by
    rw [List.all_eq_true] at h4 ⊢
    intro x hx
    unfold namesOf at hx
    obtain ⟨a, h2, rfl⟩ := List.mem_map.1 hx
    exact attrB_word (h4 a h2)
  rw [this]

set_option maxHeartbeats 4000000 in
theorem specSchemaOk_any (x0 x1 : Value) (d : SchemaD) (w : World) (h : SchemaM w x0 x1 d) :
    Calls Try.prog 50 #[.agg #[x0, x1]] w fun e w' => e = .returned (.bool (schemaB d)) ∧ Below w.heap.size w w' := by
  obtain ⟨A, n, c, D, m, k, rfl, rfl, hl, hn, hr, hs, hm, -⟩ := h
  have hbox : Below w.heap.size w (w.alloc (.cells #[.slice A n c, .slice D m k] 43)) := (Below.refl _ _).alloc (Nat.le_refl _) _
  obtain ⟨W, hW⟩ : ∃ W, W = w.alloc (.cells #[.slice A n c, .slice D m k] 43) := ⟨_, rfl⟩
  have hX := Box2.new w (.slice A n c) (.slice D m k) 43
  rw [← hW] at hX
  have HL := hide (hl.keep hbox)
  have HR := hide (hr.keep hbox)
  rw [← hW] at HL HR hbox
  have HS := hide hs
  have hl1 := hide hl.1
  have hr1 := hide hr.1
  have HW := hide hW
  clear hl hr hs hW
  cases h1 : inB (n : Int) 1 5
  · have hfin := hide (show schemaB d = false by rw [schemaB, ← hl1.out, h1]; rfl)
    go_enter Try.func50, Try.ntmps50
    go_wp2_with (go_at_call 64; refine (l1In_any _ _ _ _).mono ?_; rintro e w' ⟨rfl, rfl⟩)
    rw [← HW.out]
    go_ret
    exact ⟨ret_bool hfin.out.symm, hbox⟩
  · cases h2 : inB (m : Int) 2 3
    · have hfin := hide (show schemaB d = false by rw [schemaB, ← hr1.out, h2]; simp)
      go_enter Try.func50, Try.ntmps50
      go_wp2_with (go_at_call 64; refine (l1In_any _ _ _ _).mono ?_; rintro e w' ⟨rfl, rfl⟩)
      rw [← HW.out]
      go_ret
      exact ⟨ret_bool hfin.out.symm, hbox⟩
    · cases h3 : wordsB d.classes
      · have hfin := hide (show schemaB d = false by rw [schemaB, h3]; simp)
        have H3 := hide h3
        clear h3
        go_enter Try.func50, Try.ntmps50
        go_wp2_with (go_at_call 64; refine (l1In_any _ _ _ _).mono ?_; rintro e w' ⟨rfl, rfl⟩)
        rw [← HW.out]
        refine (specWords_any D m k d.classes _ HR.out (fun s h => by have := HS.out s h; omega) (by omega)).mono ?_
        rintro e w' ⟨rfl, q, rfl⟩
        rw [H3.out]
        go_wp2
        go_ret
        exact ⟨ret_bool hfin.out.symm, below_drewN hbox _⟩
      · have H3 := hide h3
        have hfin := hide (show ∀ K, d.attrs.length ≤ K → (d.attrs.take K).all attrB = true → ((namesOf d).take K).Nodup → schemaB d = true from fun K => schemaB_all (by rw [← hl1.out]; exact h1) (by rw [← hr1.out]; exact h2) h3)
        clear h3
        go_enter Try.func50, Try.ntmps50
        go_wp2_with (go_at_call 64; refine (l1In_any _ _ _ _).mono ?_; rintro e w' ⟨rfl, rfl⟩)
        rw [← HW.out]
        refine (specWords_any D m k d.classes _ HR.out (fun s h => by have := HS.out s h; omega) (by omega)).mono ?_
        rintro e w' ⟨rfl, q, rfl⟩
        rw [H3.out]
        clear h1 h2
        obtain ⟨k0, k1, k2⟩ := id hX
        go_wp2
        clear k0 k1 k2
        go_loopw [3] (fun i wr => ∃ K : Nat, K ≤ n ∧ i = .int .i64 K ∧ Hid ((d.attrs.take K).all attrB = true) ∧ Hid (((namesOf d).take K).Nodup) ∧ Below W.heap.size W wr) (fun i _ => n - (intOf i).toNat)
        case atStart => exact ⟨0, Nat.zero_le _, rfl, show _ = _ by simp, show List.Nodup _ by simp, below_drewN (Below.refl _ _) _⟩
        case round =>
          obtain ⟨K, hk, rfl, hall, hnd, hbel⟩ := hrel
          obtain ⟨k0, k1, k2⟩ := hX.keep hbel
          have hend := hide (bthen hbox hbel)
          by_cases hlt : K < n
          · obtain ⟨ad, A1, n1, c1, A2, n2, c2, rfl, hbk, g0, g1, g2, hI⟩ := (HL.out.keep hbel).at_ hlt
            have hkl := hide (show K < d.attrs.length by have := hl1.out; omega)
            have HI := hide hI
            clear hI
            go_wp2_with (fail)
            refine (specAttrOk_any _ _ _ _ _ _ (d.attrs[K]?.getD default) _ HI.out).mono ?_
            rintro e w2 ⟨rfl, hb⟩
            have hbel2 := bthen hbel hb
            have hend2 := hide (bthen hbox hbel2)
            clear hb g0 g1 g2 hbel k0 k1 k2 hbk HI
            cases ha : attrB (d.attrs[K]?.getD default)
            · have hbad := hide (schemaB_bad hkl.out ha)
              clear ha
              go_wp2
              go_ret
              exact ⟨ret_bool hbad.out.symm, hend2.out⟩
            · have hall' := hide (all_stepD (p := attrB) default hkl.out hall.out ha)
              clear ha hall
              obtain ⟨k0, k1, k2⟩ := hX.keep hbel2
              go_wp2
              clear k0 k1 k2
              go_loopw [4] (fun i wr => ∃ j : Nat, j ≤ K ∧ i = .int .i64 j ∧ Hid ((d.attrs[K]?.getD default).name ∉ (namesOf d).take j) ∧ Below W.heap.size W wr) (fun i _ => K - (intOf i).toNat)
              case atStart => exact ⟨0, Nat.zero_le _, rfl, show ¬ _ by simp, hbel2⟩
              case round =>
                clear hbel2 hend hend2
                obtain ⟨j, hj, rfl, hno, hbel⟩ := hrel
                obtain ⟨k0, k1, k2⟩ := hX.keep hbel
                have hend := hide (bthen hbox hbel)
                by_cases hjk : j < K
                · obtain ⟨ad1, A1, n1, c1, A2, n2, c2, e1, hbk, g0, g1, g2, hI⟩ := (HL.out.keep hbel).at_ hlt
                  injection e1 with e1
                  subst e1
                  obtain ⟨ad2, B1, m1, d1, B2, m2, d2, e2, hbk2, f0, f1, f2, hI2⟩ := (HL.out.keep hbel).at_ (k := j) (by omega)
                  injection e2 with e2
                  subst e2
                  have hjl := hide (show j < d.attrs.length by have := hkl.out; omega)
                  have hi0 : (0 : Int) ≤ j := by omega
                  have hi1 : (j : Int) < n := by omega
                  have hi2 : (0 : Int) ≤ K := by omega
                  have hi3 : (K : Int) < n := by omega
                  obtain ⟨X, hX1⟩ : ∃ X, X = (d.attrs[K]?.getD default).name := ⟨_, rfl⟩
                  obtain ⟨Y, hY1⟩ : ∃ Y, Y = (d.attrs[j]?.getD default).name := ⟨_, rfl⟩
                  rw [← hX1] at g0
                  rw [← hY1] at f0
                  have HX1 := hide hX1
                  have HY1 := hide hY1
                  clear hX1 hY1 hI hI2 g1 g2 f1 f2
                  by_cases hXY : X = Y
                  · have hbad := hide (schemaB_twice hkl.out (by rw [← HX1.out, hXY, HY1.out, ← name_at hjl.out]; exact mem_of (by rw [names_len]; exact hjl.out) hjk))
                    have hb := str_beq hXY
                    clear hXY
                    go_wp2
                    go_quiet (fail)
                    go_wp2
                    go_ret
                    exact ⟨ret_bool hbad.out.symm, below_drewN hend.out _⟩
                  · have hno' := hide (mem_snoc (l := namesOf d) (by rw [names_len]; exact hjl.out) hno.out (by rw [name_at hjl.out, ← HX1.out, ← HY1.out]; exact hXY))
                    have hb := str_beq_no hXY
                    clear hXY hno
                    go_wp2
                    go_quiet (fail)
                    go_wp2
                    go_roundw
                    case rel => exact ⟨j + 1, by omega, by go_num, hno', below_drewN hbel _⟩
                    case measure => simp [intOf]; omega
                · obtain rfl : j = K := by omega
                  have hnd' := hide (nodup_snoc (l := namesOf d) (k := j) (by rw [names_len]; exact hkl.out) hnd.out (by rw [name_at hkl.out]; exact hno.out))
                  go_wp2
                  go_roundw
                  case rel => exact ⟨j + 1, by omega, by go_num, hall', hnd', hbel⟩
                  case measure => simp [intOf]; omega
          · have hf := hide (hfin.out K (by have := hl1.out; omega) hall.out hnd.out)
            go_wp2
            go_ret
            exact ⟨ret_bool hf.out.symm, hend.out⟩
end Go.Proofs.Ytjdncobdecdhmaa
