/-
  Contracts: right schemas, the program.
-/
import Derived.Test.YtjdncobdecdhmaaSchemaOk
namespace Go.Proofs.Ytjdncobdecdhmaa
open Go.RowKit
set_option maxRecDepth 100000

theorem names_take {d : SchemaD} {k : Nat} (hk : k < d.attrs.length) : (namesOf d).take (k + 1) = (namesOf d).take k ++ [(d.attrs[k]?.getD default).name] := by
  rw [List.take_succ_eq_append_getElem (by rw [names_len]; exact hk)]
  congr 1
  simp [namesOf, hk]

set_option maxHeartbeats 4000000 in
theorem implSchemaOk_any (x0 x1 : Value) (d : SchemaD) (w : World) (h : SchemaM w x0 x1 d) :
    Calls Try.prog 54 #[.agg #[x0, x1]] w fun e w' => e = .returned (.bool (schemaB d)) ∧ Below w.heap.size w w' := by
  obtain ⟨A, n, c, D, m, k, rfl, rfl, hl, hn, hr, hs, hm, hmk⟩ := h
  have hbox : Below w.heap.size w (w.alloc (.cells #[.slice A n c, .slice D m k] 43)) := (Below.refl _ _).alloc (Nat.le_refl _) _
  obtain ⟨W, hW⟩ : ∃ W, W = w.alloc (.cells #[.slice A n c, .slice D m k] 43) := ⟨_, rfl⟩
  have hX := Box2.new w (.slice A n c) (.slice D m k) 43
  rw [← hW] at hX
  have HL := hide (hl.keep hbox)
  have HR := hide (hr.keep hbox)
  have hsm := hide (attrs_small hl)
  rw [← hW] at HL HR hbox
  have HS := hide hs
  have hl1 := hide hl.1
  have hr1 := hide hr.1
  have HW := hide hW
  clear hl hr hs hW
  cases h1 : inB (n : Int) 1 5
  · have hfin := hide (show schemaB d = false by rw [schemaB, ← hl1.out, h1]; rfl)
    go_enter Try.func54, Try.ntmps54
    go_wp2_with (go_at_call 65; refine (within_any _ _ _ _).mono ?_; rintro e w' ⟨rfl, rfl⟩)
    rw [← HW.out]
    go_ret
    exact ⟨ret_bool hfin.out.symm, hbox⟩
  · cases h2 : inB (m : Int) 2 3
    · have hfin := hide (show schemaB d = false by rw [schemaB, ← hr1.out, h2]; simp)
      go_enter Try.func54, Try.ntmps54
      go_wp2_with (go_at_call 65; refine (within_any _ _ _ _).mono ?_; rintro e w' ⟨rfl, rfl⟩)
      rw [← HW.out]
      go_ret
      exact ⟨ret_bool hfin.out.symm, hbox⟩
    · cases h3 : wordsB d.classes
      · have hfin := hide (show schemaB d = false by rw [schemaB, h3]; simp)
        have H3 := hide h3
        clear h3
        go_enter Try.func54, Try.ntmps54
        go_wp2_with (go_at_call 65; refine (within_any _ _ _ _).mono ?_; rintro e w' ⟨rfl, rfl⟩)
        rw [← HW.out]
        refine (implWords_any D m k d.classes _ HR.out (fun s h => by have := HS.out s h; omega) (by omega) hmk).mono ?_
        rintro e w' ⟨rfl, rfl⟩
        rw [H3.out]
        go_wp2
        go_ret
        exact ⟨ret_bool hfin.out.symm, hbox⟩
      · have H3 := hide h3
        have hfin := hide (show d.attrs.all attrB = true → schemaB d = wordsB (namesOf d) from schemaB_words (by rw [← hl1.out]; exact h1) (by rw [← hr1.out]; exact h2) h3)
        clear h3
        have hn5 : n ≤ 5 := by have := (inB_iff.1 h1).2; omega
        go_enter Try.func54, Try.ntmps54
        go_wp2_with (go_at_call 65; refine (within_any _ _ _ _).mono ?_; rintro e w' ⟨rfl, rfl⟩)
        rw [← HW.out]
        refine (implWords_any D m k d.classes _ HR.out (fun s h => by have := HS.out s h; omega) (by omega) hmk).mono ?_
        rintro e w' ⟨rfl, rfl⟩
        rw [H3.out]
        clear h1 h2
        obtain ⟨k0, k1, k2⟩ := id hX
        have hX2 := hX.keep ((Below.refl _ W).alloc (Nat.le_refl _) (.cells #[] 9))
        obtain ⟨j0, j1, j2⟩ := id hX2
        have hown0 := own_empty W W.heap.size 9 1 (Nat.le_refl _)
        go_wp2
        clear k0 k1 k2 j0 j1 j2 hX2
        go_loopw [3, 28] (fun v i wr => ∃ K : Nat, K ≤ n ∧ i = .int .i64 K ∧ Hid ((d.attrs.take K).all attrB = true) ∧ (∃ G M, v = .slice G K M) ∧ wr.ownsRow W.heap.size 9 1 v K (((namesOf d).take K).map Value.string) ∧ Below W.heap.size W wr) (fun _ i _ => n - (intOf i).toNat)
        case atStart => exact ⟨0, Nat.zero_le _, rfl, show _ = _ by simp, ⟨_, _, rfl⟩, hown0, (Below.refl _ _).alloc (Nat.le_refl _) _⟩
        case round =>
          clear hown0
          obtain ⟨K, hk, rfl, hall, ⟨G, M, rfl⟩, hown, hbel⟩ := hrel
          have hend := hide (bthen hbox hbel)
          by_cases hlt : K < n
          · obtain ⟨ad, A1, n1, c1, A2, n2, c2, rfl, hbk, g0, g1, g2, hI⟩ := (HL.out.keep hbel).at_ hlt
            have hkl := hide (show K < d.attrs.length by have := hl1.out; omega)
            obtain ⟨a, ha⟩ : ∃ a, a = d.attrs[K]?.getD default := ⟨_, rfl⟩
            rw [← ha] at g0 hI
            have HA := hide ha
            clear ha
            have hal : Below wr.heap.size wr (wr.alloc (.cells #[.string a.name, .slice A1 n1 c1, .slice A2 n2 c2] 73)) := (Below.refl _ _).alloc (Nat.le_refl _) _
            have HI := hide (hI.keep hal)
            have hbelA := bthen hbel hal
            have hz : (wr.alloc (.cells #[.string a.name, .slice A1 n1 c1, .slice A2 n2 c2] 73)).heap.size = wr.heap.size + 1 := by simp
            have hownA := hide (own_below hown hal)
            clear hI
            go_wp2_with (fail)
            refine (implAttrOk_any _ _ _ _ _ _ a _ HI.out).mono ?_
            rintro e w2 ⟨rfl, hb⟩
            have hbel2 := bthen hbelA hb
            have hend2 := hide (bthen hbox hbel2)
            have hown2 := own_below hownA.out hb
            have hc0 : w2.cell? ⟨wr.heap.size, 0, none⟩ = some (.string a.name) := (hb.cell (p := ⟨wr.heap.size, 0, none⟩) (by simp)).trans (by go_simp)
            have hsz2 := hbel2.size
            clear hb g0 g1 g2 hbel hbk HI hal hz hbelA hown hownA
            cases hb : attrB a
            · have hbad := hide (schemaB_bad hkl.out (by rw [← HA.out]; exact hb))
              clear hb
              go_wp2
              go_ret
              exact ⟨ret_bool hbad.out.symm, hend2.out⟩
            · have hall' := hide (all_stepD (p := attrB) default hkl.out hall.out (by rw [← HA.out]; exact hb))
              have hnt := hide (names_take hkl.out)
              clear hb hall
              go_wp2_with (at_builtin; go_must (refine wpList_append_one w2 rfl _ _ 26 rfl W.heap.size 9 (.string ⟨#[]⟩) 1 16 Try.underlying26 infoS rfl (by decide) _ K _ [.string a.name] rfl hown2 _ rfl rfl (by simp [Value.oneCell']) rfl (by unfold maxLen; omega) (by omega) hsz2 ?_); intro v' w1 hown1 hb1 _ _)
              obtain ⟨G', M', rfl⟩ := own_shape hown1
              go_roundw
              case rel => exact ⟨K + 1, by omega, by go_num, hall', ⟨_, _, rfl⟩, by rw [hnt.out, ← HA.out]; simpa using hown1, hbel2.trans hb1⟩
              case measure => simp [intOf]; omega
          · obtain rfl : K = n := by omega
            have ho' : wr.ownsRow W.heap.size 9 1 (.slice G K M) K ((namesOf d).map Value.string) := by
              have := hown
              rwa [List.take_of_length_le (by rw [names_len]; have := hl1.out; omega)] at this
            have hf := hide (hfin.out (by
              have := hall.out
              rwa [List.take_of_length_le (by have := hl1.out; omega)] at this))
            have HO := hide ho'
            clear hown ho'
            go_wp2_with (fail)
            refine (implWords_any G K M (namesOf d) _ (strs_of HO.out) (fun s h => ?_) (by omega) (own_cap HO.out)).mono ?_
            · unfold namesOf at h
              obtain ⟨a, h2, rfl⟩ := List.mem_map.1 h
              have := (hsm.out a h2).1
              omega
            rintro e w' ⟨rfl, rfl⟩
            go_wp2
            go_ret
            exact ⟨ret_bool hf.out.symm, hend.out⟩
end Go.Proofs.Ytjdncobdecdhmaa
