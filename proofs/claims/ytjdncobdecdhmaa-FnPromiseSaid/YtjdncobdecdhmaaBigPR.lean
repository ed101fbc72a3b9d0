/-
  Proved: the law FnPromise returns true for every input that the row speaks of, and every argument reads as before. No condition.
-/
import Derived.Test.YtjdncobdecdhmaaRPre
import Derived.Test.YtjdncobdecdhmaaDrawState
import Derived.Test.YtjdncobdecdhmaaExOk
import Derived.Test.YtjdncobdecdhmaaSchema4
import Derived.Deep.RegionLaw
import Derived.Test.YtjdncobdecdhmaaStAdd
import Derived.Test.YtjdncobdecdhmaaStatsNew2
import Derived.Test.YtjdncobdecdhmaaStatsTotal
import Derived.Test.YtjdncobdecdhmaaLib
import Derived.Test.YtjdncobdecdhmaaRows
import Derived.Test.YtjdncobdecdhmaaOpen
namespace Go.Proofs.Ytjdncobdecdhmaa
open Go.RowKit
set_option maxRecDepth 100000
set_option linter.unusedSimpArgs false

theorem SchemaM.rows {w : World} {A D : Option Addr} {n c m k : Nat} {d : SchemaD} (h : SchemaM w (.slice A n c) (.slice D m k) d) : AttrsM w A n d.attrs ∧ Strs w D m d.classes := by
  obtain ⟨A', n', c', D', m', k', e1, e2, h1, -, h2, -⟩ := h
  injection e1 with a1 a2 a3
  injection e2 with b1 b2 b3
  subst a1 a2 a3 b1 b2 b3
  exact ⟨h1, h2⟩
/-- Bins and a class as they are drawn. -/
def drawnE (l : List Int) (cls : Int) : Prop := (∀ u ∈ l, -1 ≤ u ∧ u ≤ 1048576) ∧ 0 ≤ cls ∧ cls ≤ 1048576
theorem bins_more {l : List Int} {u : Int} (h : ∀ x ∈ l, -1 ≤ x ∧ x ≤ 1048576) (hu : -1 ≤ u ∧ u ≤ 1048576) : ∀ x ∈ l ++ [u], -1 ≤ x ∧ x ≤ 1048576 := by
  intro x hx
  rcases List.mem_append.1 hx with e | e
  · exact h x e
  · simp at e
    subst e
    exact hu
theorem cls_wf {x : Int} (h : -9223372036854775808 ≤ x ∧ x ≤ 9223372036854775807) : (Lit.int .i64 x).wf = true := by
  simp [Lit.wf, IntKind.min, IntKind.max, IntKind.signed, IntKind.bits]
  omega


set_option maxHeartbeats 8000000 in
theorem l7Right_any (b : Nat) (x0 x1 : Value) (d : SchemaD) (B : Nat) (w : World) (h : Cur w b) (hs : SchemaO B w.heap.size w x0 x1 d) (hB : b < B) :
    Calls Try.prog 121 #[.pointer (some ⟨b, 0, none⟩), .agg #[x0, x1]] w fun e w' => ∃ G n c cls, e = .returned (.agg #[.slice G n c, .int .i64 cls]) ∧
      (∃ l, w'.ownsRow w.heap.size 3 1 (.slice G n c) n (l.map (Value.int .i64)) ∧ drawnE l cls) ∧ (n ≤ 1048576 ∧ n ≤ d.attrs.length) ∧ Cur w' b ∧ Only (· = b) w w' := by
  have HSO := hide hs
  have hbw := h.lt
  obtain ⟨A, n, c, D, m, k, rfl, rfl, hl, hn, -, -, hm, hmk⟩ := hs.m
  have HNL := hide (show n ≤ d.attrs.length from Nat.le_of_eq hl.1)
  clear hl
  have hP := rpre_start w (.slice A n c) (.slice D m k) 43 129
  obtain ⟨W0, hW0⟩ : ∃ W, W = w.alloc (.cells #[.slice A n c, .slice D m k] 43) := ⟨_, rfl⟩
  rw [← hW0] at hP
  obtain ⟨W1, hW1⟩ : ∃ W, W = W0.alloc (.cells #[.slice none 0 0, .int .i64 0] 129) := ⟨_, rfl⟩
  rw [← hW1] at hP
  have HZ0 := hide hP.z
  have HAL0 := hide hP.b0
  have hz1 : W1.heap.size = w.heap.size + 2 := by rw [hW1]; simp [hP.z]
  have hE := estate_draw hP (b := b) (h.keep hP.b0) (by have := hP.z; omega) 129
  rw [hz1] at hE
  have HARG := hide (show BoxW W0 w.heap.size (.slice A n c) (.slice D m k) from by rw [hW0]; exact BoxW.new _ _ _ _)
  have HW := hide (show W1 = (w.alloc (.cells #[.slice A n c, .slice D m k] 43)).alloc (.cells #[.slice none 0 0, .int .i64 0] 129) by rw [hW1, hW0])
  have HE := hide hE
  clear h hs hP hW0 hW1 hE
  go_enter Try.func121, Try.ntmps121
  go_wp2_with (fail)
  rw [← HW.out]
  go_loopw [6] (fun i W => ∃ K : Nat, K ≤ n ∧ i = .int .i64 K ∧ (∃ G c9 l, EState W0 (· = b) (w.heap.size + 1) (w.heap.size + 2) W G K c9 l 0 ∧ Hid (∀ u ∈ l, -1 ≤ u ∧ u ≤ 1048576))) (fun i _ => n - (intOf i).toNat)
  case atStart => exact ⟨0, Nat.zero_le _, rfl, none, 0, [], HE.out, fun u hu => by cases hu⟩
  case round =>
    clear HE
    obtain ⟨K, hk, rfl, G, c9, l, hS, HBD⟩ := hrel
    have HS := hide hS
    clear hS
    have hbx : ¬ w.heap.size = b := by omega
    have HRO := hide ((HSO.out.only ((Only.of_below (S := (· = b)) HAL0.out).trans HS.out.only) (fun k hk => .inl (by omega))).m.rows)
    obtain ⟨x0, x1, f0, f1, xl⟩ := HARG.out.only HS.out.only hbx
    by_cases hlt : K < n
    · obtain ⟨au, A1, n1, c1, A2, n2, c2, rfl, hbk, g0, g1, g2, hI⟩ := HRO.out.1.at_ hlt
      obtain ⟨a, ha⟩ : ∃ a, a = d.attrs[K]?.getD default := ⟨_, rfl⟩
      rw [← ha] at g0 hI
      have HI := hide hI
      clear ha hI
      have hbo := binsOf_bd a
      go_wp2_with (fail)
      refine (specBins_any A1 n1 c1 A2 n2 c2 a _ HI.out).mono ?_
      rintro e w4 ⟨rfl, hb⟩
      generalize binsOf a = nb at *
      replace HS := hide (HS.out.keep hb)
      clear hb x0 x1 f0 f1 xl g0 g1 g2 hbk HI HRO
      go_wp2_with (fail)
      refine (l1Below_any b nb _ (HS.out.cur b rfl) (by omega)).mono ?_
      rintro e w5 ⟨u, rfl, hu0, hu1, hu2, hC, ho⟩
      replace HS := hide (HS.out.draw (fun j hj => by subst hj; exact hC) ho)
      clear hC ho
      have hu3 : u ≤ 4 := by
        rcases (show nb ≤ 0 ∨ 0 < nb by omega) with h | h
        · have := hu2 h; omega
        · have := hu1 h; omega
      clear hu1 hu2
      go_wp2_with (fail)
      refine (l1Once_any b 9 _ (HS.out.cur b rfl) (by omega)).mono ?_
      rintro e w6 ⟨t, rfl, hC, ho⟩
      replace HS := hide (HS.out.draw (fun j hj => by subst hj; exact hC) ho)
      clear hC ho
      cases t
      · obtain ⟨e0, e1, k0, k1, el⟩ := HS.out.box
        have HSZ := hide (show W0.heap.size ≤ w6.heap.size from HS.out.only.size)
        go_wp2_with (at_builtin; go_must (refine wpList_append_one w6 rfl _ _ 28 rfl W0.heap.size 3 (.int .i64 0) 1 8 Try.underlying28 infoI rfl (by decide) _ K _ [.int .i64 u] rfl HS.out.own _ rfl rfl (by simp [Value.oneCell']) rfl (by unfold maxLen; omega) (by omega) HSZ.out ?_); intro v' w9 hown9 hb9 hn9 hg9; obtain ⟨D9, m9, rfl⟩ := own_shape hown9; obtain ⟨y0, y1, q0, q1, yl⟩ := (HS.out.turn hb9 hg9).2.1)
        have HS9 := hide (HS.out.item (G' := D9) (k' := m9) hown9 hb9 hg9 hn9)
        have HB9 := hide (bins_more HBD.out (show -1 ≤ u ∧ u ≤ 1048576 by omega))
        clear hown9 hb9 hg9 hn9 e0 e1 k0 k1 el y0 y1 q0 q1 yl HS
        go_wp2
        go_roundw
        case rel => exact ⟨K + 1, by omega, by go_num, D9, m9, _, HS9.out, HB9⟩
        case measure => simp [intOf]; omega
      · obtain ⟨e0, e1, k0, k1, el⟩ := HS.out.box
        have HSZ := hide (show W0.heap.size ≤ w6.heap.size from HS.out.only.size)
        go_wp2_with (at_builtin; go_must (refine wpList_append_one w6 rfl _ _ 28 rfl W0.heap.size 3 (.int .i64 0) 1 8 Try.underlying28 infoI rfl (by decide) _ K _ [.int .i64 (-1)] rfl HS.out.own _ rfl rfl (by simp [Value.oneCell']) rfl (by unfold maxLen; omega) (by omega) HSZ.out ?_); intro v' w9 hown9 hb9 hn9 hg9; obtain ⟨D9, m9, rfl⟩ := own_shape hown9; obtain ⟨y0, y1, q0, q1, yl⟩ := (HS.out.turn hb9 hg9).2.1)
        have HS9 := hide (HS.out.item (G' := D9) (k' := m9) hown9 hb9 hg9 hn9)
        have HB9 := hide (bins_more HBD.out (show -1 ≤ (-1) ∧ (-1) ≤ 1048576 by omega))
        clear hown9 hb9 hg9 hn9 e0 e1 k0 k1 el y0 y1 q0 q1 yl HS
        go_wp2
        go_roundw
        case rel => exact ⟨K + 1, by omega, by go_num, D9, m9, _, HS9.out, HB9⟩
        case measure => simp [intOf]; omega
    · obtain rfl : K = n := by omega
      go_wp2_with (fail)
      refine (l1Below_any b m _ (HS.out.cur b rfl) (by omega)).mono ?_
      rintro e w5 ⟨u, rfl, hu0, hu1, hu2, hC, ho⟩
      replace HS := hide (HS.out.draw (fun j hj => by subst hj; exact hC) ho)
      clear hC ho x0 x1 f0 f1 xl HRO
      have hu3 : u ≤ 1048576 := by
        rcases (show (m : Int) ≤ 0 ∨ (0 : Int) < m by omega) with h | h
        · have := hu2 h; omega
        · have := hu1 h; omega
      clear hu1 hu2
      have HSC := hide (HS.out.setCls u)
      obtain ⟨x0, x1, f0, f1, xl⟩ := HARG.out.only HSC.out.only hbx
      obtain ⟨e0, e1, k0, k1, el⟩ := HS.out.box
      rcases Nat.eq_zero_or_pos K with hK0 | hK0
      · obtain ⟨r0, r1, h0, h1, rl⟩ := HSC.out.res
        subst hK0
        obtain ⟨y0, y1, q0, q1, yl⟩ := HSC.out.box
        have HFIN := hide (HSC.out.fin (.slice G 0 c9) (.int .i64 u))
        go_wp2
        exact bodyPost_ret (v := .agg #[.slice G 0 c9, .int .i64 u]) (by simp [results, Try.results121, go_sem, r0, r1]) rfl
          ⟨_, _, _, _, rfl, ⟨l, own_lower HFIN.out.1 (by have := HZ0.out; omega), HBD.out, by omega, by omega⟩, ⟨by omega, by have := HNL.out; omega⟩, HFIN.out.2.1 b rfl, (Only.of_below HAL0.out).trans HFIN.out.2.2⟩
      · have HIN := hide (ints_of HS.out.own)
        clear e0 e1 k0 k1 el
        obtain ⟨e0, e1, k0, k1, el⟩ := HS.out.box
        have hK1 : (0 : Int) < K := by omega
        go_wp2_with (fail)
        refine (l1Once_any b 5 _ (HSC.out.cur b rfl) (by omega)).mono ?_
        rintro e w6 ⟨t, rfl, hC, ho⟩
        have HS6 := hide (HSC.out.draw (fun j hj => by subst hj; exact hC) ho)
        clear hC ho x0 x1 f0 f1 xl e0 e1 k0 k1 el HIN
        obtain ⟨x0, x1, f0, f1, xl⟩ := HARG.out.only HS6.out.only hbx
        cases t
        · rcases Nat.eq_zero_or_pos m with hm0 | hm0
          · subst hm0
            obtain ⟨e0, e1, k0, k1, el⟩ := HS6.out.box
            obtain ⟨r0, r1, h0, h1, rl⟩ := HS6.out.res
            have HFIN := hide (HS6.out.fin (.slice G K c9) (.int .i64 u))
            go_wp2
            exact bodyPost_ret (v := .agg #[.slice G K c9, .int .i64 u]) (by simp [results, Try.results121, go_sem, r0, r1]) rfl
              ⟨_, _, _, _, rfl, ⟨l, own_lower HFIN.out.1 (by have := HZ0.out; omega), HBD.out, by omega, by omega⟩, ⟨by omega, by have := HNL.out; omega⟩, HFIN.out.2.1 b rfl, (Only.of_below HAL0.out).trans HFIN.out.2.2⟩
          · obtain ⟨ad, rfl, hadb, hcell⟩ := (ints_of HS6.out.own).at_ hK0
            obtain ⟨v, hv⟩ : ∃ v, v = l[0]?.getD 0 := ⟨_, rfl⟩
            have hvb := HBD.out v (by have := (ints_of HS6.out.own).1; rw [hv, List.getElem?_eq_getElem (by omega), Option.getD_some]; exact List.getElem_mem (by omega))
            rw [← hv, show ad.add 0 = ad by simp [Addr.add]] at hcell
            clear hv
            have hm1 : (0 : Int) < m := by omega
            have HSD := hide (HS6.out.setCls ((v + 1) % (m : Int)))
            have hmod := emod_in (x := v + 1) hm1
            obtain ⟨e0, e1, k0, k1, el⟩ := HS6.out.box
            obtain ⟨y0, y1, q0, q1, yl⟩ := HSD.out.box
            obtain ⟨r0, r1, h0, h1, rl⟩ := HSD.out.res
            have HFIN := hide (HSD.out.fin (.slice (some ad) K c9) (.int .i64 ((v + 1) % (m : Int))))
            have hi1 : (0 : Int) < K := by omega
            go_wp2
            go_region
            all_goals
              go_wp2
              exact bodyPost_ret (v := .agg #[.slice (some ad) K c9, .int .i64 ((v + 1) % (m : Int))]) (by simp [results, Try.results121, go_sem, r0, r1]) rfl
                ⟨_, _, _, _, rfl, ⟨l, own_lower (own_below HFIN.out.1 (Below.refl _ _).drew) (by have := HZ0.out; omega), HBD.out, by omega, by omega⟩, ⟨by omega, by have := HNL.out; omega⟩, (HFIN.out.2.1 b rfl).keep (Below.refl _ _).drew, (Only.of_below HAL0.out).trans HFIN.out.2.2.drew⟩
        · obtain ⟨e0, e1, k0, k1, el⟩ := HS6.out.box
          obtain ⟨r0, r1, h0, h1, rl⟩ := HS6.out.res
          have HFIN := hide (HS6.out.fin (.slice G K c9) (.int .i64 u))
          go_wp2
          exact bodyPost_ret (v := .agg #[.slice G K c9, .int .i64 u]) (by simp [results, Try.results121, go_sem, r0, r1]) rfl
            ⟨_, _, _, _, rfl, ⟨l, own_lower HFIN.out.1 (by have := HZ0.out; omega), HBD.out, by omega, by omega⟩, ⟨by omega, by have := HNL.out; omega⟩, HFIN.out.2.1 b rfl, (Only.of_below HAL0.out).trans HFIN.out.2.2⟩
end Go.Proofs.Ytjdncobdecdhmaa
namespace Go.Proofs.Ytjdncobdecdhmaa
open Go.RowKit
set_option maxRecDepth 100000
set_option linter.unusedSimpArgs false

/-- Statistics that a call made, put into the box in the place of others. -/
theorem VState.put {w W : World} {S : Nat → Prop} {r x : Nat} {T D : Option Addr} {n c m k : Nat} {rr : Nat → Row} {d : StatsD} {B : Nat} {T2 D2 : Option Addr} {n2 c2 m2 k2 : Nat} {rr2 : Nat → Row} {d2 : StatsD}
    (h : VState w S r x W T n c D m k rr d) (hst : StP B W T2 n2 c2 D2 m2 k2 rr2 d2) (hx : x < B) (hr : r < B) :
    VState w S r x ((W.setCell ⟨x, 0, none⟩ (.slice T2 n2 c2)).setCell ⟨x, 1, none⟩ (.slice D2 m2 k2)) T2 n2 c2 D2 m2 k2 rr2 d2 := by
  have ho' := h.ord
  have hs := ((Only.refl (fun j => x = j) W).setCell (p := ⟨x, 0, none⟩) rfl (.slice T2 n2 c2)).setCell (p := ⟨x, 1, none⟩) rfl (.slice D2 m2 k2)
  have hlow : Below w.heap.size W ((W.setCell ⟨x, 0, none⟩ (.slice T2 n2 c2)).setCell ⟨x, 1, none⟩ (.slice D2 m2 k2)) := ((Below.refl _ _).setCell (p := ⟨x, 0, none⟩) ho'.2.1 _).setCell (p := ⟨x, 1, none⟩) ho'.2.1 _
  have e1 : ∀ j, Value.ownBlock (.slice T2 n2 c2) = some j → j ≠ x ∧ j ≠ r := fun j hj => by have := (hst.tot.lt j hj).1; omega
  have e2 : ∀ j, has (1 + m2) rr2 j → j ≠ x ∧ j ≠ r := fun j hj => by have := (hst.bag.lt hj).1; omega
  exact ⟨h.ord, h.low, h.res.only hs (by show ¬ x = r; omega), (h.box.set0 _).set1 _, (hst.mono (by omega)).only hs (fun j hj e => (e1 j hj).1 e.symm) (fun j hj e => (e2 j hj).1 e.symm), e1, e2, fun j hj => Cur.low (h.cur j hj) (h.low j hj) hlow, h.only.low hlow⟩
theorem statsO_up {B B' H H' : Nat} {w : World} {x0 x1 : Value} {d : StatsD} (h : StatsO B H w x0 x1 d) (hB : B' ≤ B) (hH : H ≤ H') : StatsO B' H' w x0 x1 d := (h.mono hB).up hH
theorem schema_up {B B' H H' : Nat} {w : World} {x0 x1 : Value} {d : SchemaD} (h : SchemaO B H w x0 x1 d) (hB : B' ≤ B) (hH : H ≤ H') : SchemaO B' H' w x0 x1 d := by
  obtain ⟨A, n, c, D, m, k, r, h1, h2, h3, h4, h5, h6, h7, h8, h9, h10⟩ := h
  exact ⟨A, n, c, D, m, k, r, h1, h2, h3.mono hB, h4, h5, h6, h7, h8, h9, fun k hk => Nat.lt_of_lt_of_le (h10 k hk) hH⟩
theorem exM_of {B n k : Nat} {w : World} {G : Option Addr} {l : List Int} {cls : Int} (h : w.ownsRow B 3 1 (.slice G n k) n (l.map (Value.int .i64))) (hn : n ≤ 1048576) (hc : -9223372036854775808 ≤ cls ∧ cls ≤ 9223372036854775807) :
    ExM w (.slice G n k) (.int .i64 cls) ⟨l, cls⟩ := ⟨G, n, k, rfl, rfl, ints_of h, hn, cls_wf hc⟩
theorem small_new (d : SchemaD) : smallT (statsNewD d) := by
  rcases h : schemaB d with _ | _
  · rw [statsNewD_no h]; exact ⟨by simp, by simp⟩
  · rw [statsNewD_yes h]
    have hc : d.classes.length ≤ 3 := by rcases schemaB_classes h with e | e <;> omega
    refine ⟨by simp only [List.length_replicate]; omega, fun l hl => ?_⟩
    obtain ⟨a, -, rfl⟩ := List.mem_map.1 hl
    have := zeroRow_len (c := d.classes.length) (a := a) hc
    omega
def pickN : List Int := [0, 1, 3, 12, 30, 60]
theorem pickN_bd : ∀ k, k < 6 → 0 ≤ pickN[k]?.getD 0 ∧ pickN[k]?.getD 0 ≤ 60 := by decide
def pickW : List Int := [1, 2, 7]
theorem pickW_bd : ∀ k, k < 3 → 1 ≤ pickW[k]?.getD 0 ∧ pickW[k]?.getD 0 ≤ 7 := by decide

set_option maxHeartbeats 16000000 in
theorem l8Right_any (b : Nat) (x0 x1 : Value) (d : SchemaD) (B : Nat) (w : World) (h : Cur w b) (hs : SchemaO B w.heap.size w x0 x1 d) (hB : b < B) :
    Calls Try.prog 111 #[.pointer (some ⟨b, 0, none⟩), .agg #[x0, x1]] w fun e w' => ∃ y0 y1, e = .returned (.agg #[y0, y1]) ∧ (∃ t, StatsO w.heap.size w'.heap.size w' y0 y1 t ∧ smallT t) ∧ Cur w' b ∧ Only (· = b) w w' := by
  have hbw := h.lt
  obtain ⟨A, n, c, D, m, k, rfl, rfl, -, hn, -, -, hm, hmk⟩ := hs.m
  obtain ⟨W0, hW0⟩ : ∃ W, W = w.alloc (.cells #[.slice A n c, .slice D m k] 43) := ⟨_, rfl⟩
  have hal0 : Below w.heap.size w W0 := by rw [hW0]; exact (Below.refl _ _).alloc (Nat.le_refl _) _
  have hz0 : W0.heap.size = w.heap.size + 1 := by rw [hW0]; simp
  have hA0 : BoxW W0 w.heap.size (.slice A n c) (.slice D m k) := by rw [hW0]; exact BoxW.new _ _ _ _
  obtain ⟨W1, hW1⟩ : ∃ W, W = W0.alloc (.cells #[.slice none 0 0, .slice none 0 0] 39) := ⟨_, rfl⟩
  have hal1 : Below W0.heap.size W0 W1 := by rw [hW1]; exact (Below.refl _ _).alloc (Nat.le_refl _) _
  have hz1 : W1.heap.size = w.heap.size + 2 := by rw [hW1]; simp [hz0]
  have hR1 : BoxW W1 (w.heap.size + 1) (.slice none 0 0) (.slice none 0 0) := by rw [hW1, ← hz0]; exact BoxW.new _ _ _ _
  have HARG := hide hA0
  have HAL0 := hide hal0
  have HSO := hide (schema_up (hs.below hal0) (Nat.le_refl _) (show w.heap.size ≤ W0.heap.size by omega))
  have HSM1 := hide (((hs.below hal0).below hal1).m)
  have HC1 := hide ((h.keep hal0).keep hal1)
  have HA1 := hide (hA0.keep hal1)
  have HW := hide (show W1 = (w.alloc (.cells #[.slice A n c, .slice D m k] 43)).alloc (.cells #[.slice none 0 0, .slice none 0 0] 39) by rw [hW1, hW0])
  have HAL1 := hide hal1
  clear h hs hW0 hW1 hA0 hal0 hal1
  go_enter Try.func111, Try.ntmps111
  obtain ⟨x0, x1, f0, f1, xl⟩ := HA1.out
  rw [HW.out] at x0 x1 f0 f1 xl
  go_wp2_with (fail)
  rw [← HW.out]
  refine (specStatsNew_any _ _ d _ HSM1.out).mono ?_
  rintro e w2 ⟨u0, u1, rfl, hO, hb⟩
  obtain ⟨T, tn, tc, Q, qm, qk, rr, rfl, rfl, hst, -, -⟩ := hO.p
  have hz2 := hb.size
  have HV0 := hide (vstate_of (w := W0) (S := (· = b)) (r := w.heap.size + 1) (hR1.keep hb) (by omega) (by omega) (by omega) hst (fun j hj => by subst hj; omega) (fun j hj => by subst hj; exact HC1.out.keep hb) (Only.of_below (bthen HAL1.out hb)) 39)
  obtain ⟨W3, hW3⟩ : ∃ W, W = w2.alloc (.cells #[.slice T tn tc, .slice Q qm qk] 39) := ⟨_, rfl⟩
  rw [← hW3] at HV0
  have hz3 : W3.heap.size = w2.heap.size + 1 := by rw [hW3]; simp
  have hlit := hide (show Ints (W3.alloc (.cells (pickN.map (Value.int .i64)).toArray 3)) (some ⟨w2.heap.size + 1, 0, none⟩) 6 pickN from by have := ints_lit W3 pickN 3; rw [hz3] at this; exact this)
  have HW3 := hide hW3
  have hxr : w.heap.size + 1 < w2.heap.size := by omega
  clear hb hO hst hR1 x0 x1 f0 f1 xl HSM1 HC1 HA1 HW HAL1 hW3 hz2 hz1
  obtain ⟨y0, y1, g0, g1, yl⟩ := HV0.out.box
  go_wp2_with (fail)
  rw [← HW3.out]
  have hal := hide (fun o1 => ((Below.refl W3.heap.size W3).alloc (Nat.le_refl _) o1 : Below W3.heap.size W3 (W3.alloc o1)))
  refine (l1PickInt_any b (some ⟨w2.heap.size + 1, 0, none⟩) 6 6 pickN _ ((HV0.out.cur b rfl).keep (hal.out _)) hlit.out (fun _ a e => by cases e; show w2.heap.size + 1 ≠ b; omega) (by omega) (by omega)).mono ?_
  rintro e w4 ⟨j, hj, rfl, hC4, ho4⟩
  have hub := pickN_bd j hj
  generalize pickN[j]?.getD 0 = nn at *
  obtain ⟨N, rfl⟩ := Int.eq_ofNat_of_zero_le hub.1
  have hN : N ≤ 60 := by omega
  have HV := hide ((HV0.out.keep (hal.out _)).draw (fun j hj => by subst hj; exact hC4) ho4)
  clear HV0 HW3 hal hC4 ho4 hub hj y0 y1 g0 g1 yl
  go_wp2
  go_loopw [7] (fun i wr => ∃ K : Nat, K ≤ N ∧ i = .int .i64 K ∧ ∃ T tn tc Q qm qk rr t, VState W0 (· = b) (w.heap.size + 1) w2.heap.size wr T tn tc Q qm qk rr t ∧ Hid (smallT t)) (fun i _ => N - (intOf i).toNat)
  case atStart => exact ⟨0, Nat.zero_le _, rfl, _, _, _, _, _, _, _, _, HV.out, small_new d⟩
  case round =>
    clear HV
    obtain ⟨K, hk, rfl, T, tn, tc, Q, qm, qk, rr, t, hS, HSM⟩ := hrel
    have HS := hide hS
    clear hS
    have hbx : ¬ w.heap.size = b := by omega
    have hwr := HS.out.only.size
    obtain ⟨x0, x1, f0, f1, xl⟩ := HARG.out.only HS.out.only hbx
    obtain ⟨y0, y1, g0, g1, yl⟩ := HS.out.box
    by_cases hlt : K < N
    · have hlt2 : (K : Int) < N := by omega
      have HSOr := hide (schema_up (HSO.out.only HS.out.only (fun k hk => .inl (by omega))) (Nat.le_refl _) hwr)
      go_wp2_with (fail)
      refine (l7Right_any b _ _ d B _ (HS.out.cur b rfl) HSOr.out hB).mono ?_
      rintro e w5 ⟨G, n1, c9, cls, rfl, ⟨l, hown, hdr⟩, ⟨hn1, -⟩, hC5, ho5⟩
      have hal5 : Below w5.heap.size w5 (w5.alloc (.cells #[.slice G n1 c9, .int .i64 cls] 129)) := (Below.refl _ _).alloc (Nat.le_refl _) _
      have hEb := BoxW.new w5 (.slice G n1 c9) (.int .i64 cls) 129
      obtain ⟨W5, hW5⟩ : ∃ W, W = w5.alloc (.cells #[.slice G n1 c9, .int .i64 cls] 129) := ⟨_, rfl⟩
      rw [← hW5] at hal5 hEb
      have hlit5 := hide (ints_lit W5 pickW 3)
      have HS5 := hide ((HS.out.draw (fun j hj => by subst hj; exact hC5) ho5).keep hal5)
      have HE5 := hide (own_below hown hal5)
      have HEb := hide hEb
      have HA5 := hide (HARG.out.only HS5.out.only hbx)
      have HSO5 := hide (HSO.out.only HS5.out.only (fun k hk => .inl (by omega)))
      have hcl := hdr.2
      have HW5 := hide hW5
      have hb5 : b < wr.heap.size := (HS.out.cur b rfl).lt
      have hz5r := ho5.size
      clear hal5 hEb hC5 ho5 hown hdr hW5 HS HSOr x0 x1 f0 f1 xl y0 y1 g0 g1 yl
      obtain ⟨x0, x1, f0, f1, xl⟩ := HA5.out
      obtain ⟨y0, y1, g0, g1, yl⟩ := HS5.out.box
      obtain ⟨z0, z1, h0, h1, zl⟩ := HEb.out
      rw [HW5.out] at x0 x1 f0 f1 xl y0 y1 g0 g1 yl z0 z1 h0 h1 zl
      go_wp2
      rw [← HW5.out] at x0 x1 f0 f1 xl y0 y1 g0 g1 yl z0 z1 h0 h1 zl ⊢
      have hald := hide (fun o1 => (((Below.refl W5.heap.size W5).alloc (Nat.le_refl _) o1).drew : Below W5.heap.size W5 (W5.alloc o1).drew))
      go_region_law (first
        | (go_simp; go_at_call 45; refine (l1PickInt_any b (some ⟨W5.heap.size, 0, none⟩) 3 3 pickW _ ((HS5.out.cur b rfl).keep (hald.out _)) hlit5.out (fun _ => lit_apart (HS5.out.cur b rfl)) (by omega) (by omega)).mono ?_; rintro e w6 ⟨j, hj, rfl, hC6, ho6⟩; obtain ⟨u, hu, hu1, hu7⟩ : ∃ u, pickW[j]?.getD 0 = u ∧ 1 ≤ u ∧ u ≤ 7 := ⟨_, rfl, pickW_bd j hj⟩; rw [hu]; clear hu; have HS6 := hide ((HS5.out.keep (hald.out _)).draw (fun j hj => by subst hj; exact hC6) ho6); have HSO6 := hide (HSO.out.only HS6.out.only (fun k hk => .inl (by omega))); have HE6 := hide (own_only (own_below HE5.out (hald.out _)) ho6 (fun j hj e => by have := (HE5.out.lt j hj).1; omega)); obtain ⟨x60, x61, f60, f61, xl6⟩ := HARG.out.only HS6.out.only hbx; obtain ⟨y60, y61, g60, g61, yl6⟩ := HS6.out.box; obtain ⟨z60, z61, h60, h61, zl6⟩ := (HEb.out.keep (hald.out _)).only ho6 (by omega); clear hC6 ho6)
        | (go_simp; go_at_call 122; refine (specStatsAdd_any _ _ _ _ _ _ d t _ u _ HSO6.out.m HS6.out.st.o.m (exM_of HE6.out hn1 (by omega)) hu1 hu7).mono ?_; rintro e w7 ⟨u0, u1, ok, rfl, ⟨t7, hO7, hsm7⟩, hb7⟩; have HSM7 := hide (hsm7 HSM.out); obtain ⟨T7, n7, c7, D7, m7, k7, rr7, rfl, rfl, hst7, -, -⟩ := hO7.p; have HS7 := hide (HS6.out.keep hb7); have HST7 := hide hst7; obtain ⟨y70, y71, g70, g71, yl7⟩ := HS7.out.box; obtain ⟨r70, r71, i70, i71, rl7⟩ := HS6.out.res; clear hb7 hO7 hst7 hsm7))
      all_goals
        have HS9 := hide (HS7.out.put HST7.out yl6 rl7)
        clear x0 x1 f0 f1 xl y0 y1 g0 g1 yl z0 z1 h0 h1 zl x60 x61 f60 f61 xl6 y60 y61 g60 g61 yl6 z60 z61 h60 h61 zl6
        go_wp2
        exact ⟨⟨K + 1, by omega, by go_num, T7, n7, c7, D7, m7, k7, rr7, t7, HS9.out, HSM7⟩, by simp [intOf]; omega⟩
    · go_wp2_with (fail)
      refine (l1Once_any b 8 _ (HS.out.cur b rfl) (by omega)).mono ?_
      rintro e w5 ⟨q, rfl, hC5, ho5⟩
      replace HS := hide (HS.out.draw (fun j hj => by subst hj; exact hC5) ho5)
      clear hC5 ho5 x0 x1 f0 f1 xl y0 y1 g0 g1 yl
      obtain ⟨y0, y1, g0, g1, yl⟩ := HS.out.box
      cases q
      · obtain ⟨r0, r1, i0, i1, rl⟩ := HS.out.res
        have HFIN := hide (HS.out.fin (.slice T tn tc) (.slice Q qm qk))
        go_wp2
        exact bodyPost_ret (v := .agg #[.slice T tn tc, .slice Q qm qk]) (by simp [results, Try.results111, go_sem, r0, r1]) rfl
          ⟨_, _, rfl, ⟨_, statsO_up HFIN.out.1.o (by omega) (Nat.le_refl _), HSM.out⟩, HFIN.out.2.1 b rfl, (Only.of_below HAL0.out).trans HFIN.out.2.2⟩
      · go_wp2_with (fail)
        refine (specThin_any _ _ t _ HS.out.st.o.m).mono ?_
        rintro e w6 ⟨u0, u1, rfl, hO6, hb6⟩
        obtain ⟨T6, n6, c6, D6, m6, k6, rr6, rfl, rfl, hst6, -, -⟩ := hO6.p
        have HS6 := hide (HS.out.keep hb6)
        have HST6 := hide hst6
        obtain ⟨r0, r1, i0, i1, rl⟩ := HS6.out.res
        have HFIN := hide (HS6.out.fin (.slice T6 n6 c6) (.slice D6 m6 k6))
        have hrl5 := HS.out.res.lt
        have hz6 := hwr
        have hz56 := HS.out.only.size
        clear hb6 hO6 hst6
        go_wp2
        have hs := ((Only.refl (fun j => w.heap.size + 1 = j) w6).setCell (p := ⟨w.heap.size + 1, 0, none⟩) rfl (.slice T6 n6 c6)).setCell (p := ⟨w.heap.size + 1, 1, none⟩) rfl (.slice D6 m6 k6)
        exact bodyPost_ret (v := .agg #[.slice T6 n6 c6, .slice D6 m6 k6]) (by simp [results, Try.results111, go_sem, r0, r1]) rfl
          ⟨_, _, rfl, ⟨_, statsO_up (HST6.out.only hs (fun j hj e => by have := (HST6.out.tot.lt j hj).1; omega) (fun j hj e => by have := (HST6.out.bag.lt hj).1; omega)).o (by omega) (Nat.le_refl _), ⟨HSM.out.1, fun l hl => by cases hl⟩⟩, HFIN.out.2.1 b rfl, (Only.of_below HAL0.out).trans HFIN.out.2.2⟩
end Go.Proofs.Ytjdncobdecdhmaa
namespace Go.Proofs.Ytjdncobdecdhmaa
open Go.RowKit
set_option maxRecDepth 100000
set_option linter.unusedSimpArgs false

section
variable {w W W9 : World} {S : Nat → Prop} {r x : Nat} {T D : Option Addr} {n c m k : Nat} {rr : Nat → Row} {d : StatsD}
/-- What stays when a row of the cells is written or laid anew. -/
theorem VState.turnR {i : Nat} {A' : Option Addr} {n' c' : Nat} {u : List Int} (h : VState w S r x W T n c D m k rr d) (hi : i < m) (hr : rr (i + 1) = intRow A' n' c' u) (hb : Below w.heap.size W W9) (hg : W.grownBy W9 (Value.ownBlock (.slice A' n' c'))) :
    BoxW W9 r (.slice none 0 0) (.slice none 0 0) ∧ BoxW W9 x (.slice T n c) (.slice D m k) ∧ Only S w W9 ∧ (∀ j, S j → Cur W9 j) ∧ W9.ownsRow w.heap.size 28 1 (.slice D m k) m (rr 0).xs := by
  have hs : Only (fun j => Value.ownBlock (.slice A' n' c') = some j) W W9 := Only.of_grown hg fun k hk => hk
  have hh : ∀ j, Value.ownBlock (.slice A' n' c') = some j → has (1 + m) rr j := fun j hj => ⟨i + 1, by omega, by rw [hr]; exact hj⟩
  refine ⟨h.res.only hs (fun e => (h.ap2 _ (hh _ e)).2 rfl), h.box.only hs (fun e => (h.ap2 _ (hh _ e)).1 rfl), h.only.low hb, fun j hj => Cur.low (h.cur j hj) (h.low j hj) hb, ?_⟩
  refine h.outer.kept hg ?_
  rcases h.st.bag.sep 0 (i + 1) (by omega) (by omega) (by omega) with q | q
  · exact .inl (by rw [h.st.to.blk] at q; exact q)
  · refine .inr fun e => q ?_
    rw [h.st.to.blk, hr]
    exact e
/-- A row laid anew, its slice written into the outer row. -/
theorem VState.newRow {i gD : Nat} {A' A2 : Option Addr} {n' c' n2 c2 : Nat} {u : List Int} (h : VState w S r x W T n c D m k rr d) (hi : i < m) (hD : D = some ⟨gD, 0, none⟩) (hr : rr (i + 1) = intRow A' n' c' (d.cells[i]?.getD []))
    (ho : W9.ownsRow w.heap.size 3 1 (.slice A2 n2 c2) n2 (u.map (Value.int .i64))) (hb : Below w.heap.size W W9) (hg : W.grownBy W9 (Value.ownBlock (.slice A' n' c'))) (hnew : ∀ g, Value.ownBlock (.slice A2 n2 c2) = some g → Value.ownBlock (.slice A' n' c') = some g ∨ W.heap.size ≤ g) (hx : u.length ≤ 1048576) :
    ∃ rr', VState w S r x (W9.setCell ⟨gD, i, none⟩ (.slice A2 n2 c2)) T n c D m k rr' ⟨d.totals, d.cells.set i u⟩ := by
  obtain ⟨t1, t2, t3, t4, -⟩ := h.turnR hi hr hb hg
  obtain ⟨rr', hst, hh⟩ := h.st.newRow hi hD hr ho hg hnew hx
  have hgD : has (1 + m) rr gD := h.blk0 (by rw [hD]; rfl)
  have hgB := (h.st.bag.lt hgD).1
  have hgx := h.ap2 gD hgD
  have hxl := h.box.lt
  have hrl := h.res.lt
  have hs := (Only.refl (fun j => gD = j) W9).setCell (p := ⟨gD, i, none⟩) rfl (.slice A2 n2 c2)
  have hlow : Below w.heap.size W9 (W9.setCell ⟨gD, i, none⟩ (.slice A2 n2 c2)) := (Below.refl _ _).setCell (p := ⟨gD, i, none⟩) hgB _
  exact ⟨rr', h.ord, h.low, t1.only hs hgx.2, t2.only hs hgx.1, hst, h.ap1, (fun j hj => by
    rcases hh j hj with q | q
    · exact h.ap2 j q
    · omega), fun j hj => Cur.low (t4 j hj) (h.low j hj) hlow, t3.low hlow⟩
end
def pickT : List Int := [-1, 999, 998, 1000, 9223372036854775807]
def pickX : List Int := [-1, 500, 1000]

set_option maxHeartbeats 8000000 in
theorem l8Draw_any (b : Nat) (x0 x1 : Value) (d : SchemaD) (B : Nat) (w : World) (h : Cur w b) (hs : SchemaO B w.heap.size w x0 x1 d) (hB : b < B) :
    Calls Try.prog 90 #[.pointer (some ⟨b, 0, none⟩), .agg #[x0, x1]] w fun e w' => ∃ y0 y1, e = .returned (.agg #[y0, y1]) ∧ (∃ t, StatsO w.heap.size w'.heap.size w' y0 y1 t) ∧ Cur w' b ∧ Only (· = b) w w' := by
  have hbw := h.lt
  obtain ⟨A, n, c, D, m, k, rfl, rfl, -, hn, -, -, hm, hmk⟩ := hs.m
  obtain ⟨W0, hW0⟩ : ∃ W, W = w.alloc (.cells #[.slice A n c, .slice D m k] 43) := ⟨_, rfl⟩
  have hal0 : Below w.heap.size w W0 := by rw [hW0]; exact (Below.refl _ _).alloc (Nat.le_refl _) _
  have hz0 : W0.heap.size = w.heap.size + 1 := by rw [hW0]; simp
  have hA0 : BoxW W0 w.heap.size (.slice A n c) (.slice D m k) := by rw [hW0]; exact BoxW.new _ _ _ _
  obtain ⟨W1, hW1⟩ : ∃ W, W = W0.alloc (.cells #[.slice none 0 0, .slice none 0 0] 39) := ⟨_, rfl⟩
  have hal1 : Below W0.heap.size W0 W1 := by rw [hW1]; exact (Below.refl _ _).alloc (Nat.le_refl _) _
  have hz1 : W1.heap.size = w.heap.size + 2 := by rw [hW1]; simp [hz0]
  have hR1 : BoxW W1 (w.heap.size + 1) (.slice none 0 0) (.slice none 0 0) := by rw [hW1, ← hz0]; exact BoxW.new _ _ _ _
  have HAL0 := hide hal0
  have HSO1 := hide (schema_up ((hs.below hal0).below hal1) (Nat.le_refl _) (show w.heap.size ≤ W1.heap.size by omega))
  have HC1 := hide ((h.keep hal0).keep hal1)
  have HA1 := hide (hA0.keep hal1)
  have HW := hide (show W1 = (w.alloc (.cells #[.slice A n c, .slice D m k] 43)).alloc (.cells #[.slice none 0 0, .slice none 0 0] 39) by rw [hW1, hW0])
  have HAL1 := hide hal1
  clear h hs hW0 hW1 hA0 hal0 hal1
  go_enter Try.func90, Try.ntmps90
  obtain ⟨x0, x1, f0, f1, xl⟩ := HA1.out
  rw [HW.out] at x0 x1 f0 f1 xl
  go_wp2_with (fail)
  rw [← HW.out]
  refine (l8Right_any b _ _ d B _ HC1.out HSO1.out hB).mono ?_
  rintro e w3 ⟨u0, u1, rfl, ⟨t, hO, hsm⟩, hC3, ho3⟩
  obtain ⟨T, tn, tc, Q, qm, qk, rr, rfl, rfl, hst, -, -⟩ := hO.p
  have hz3 := ho3.size
  have hsmt : tn ≤ 1000 := by rw [hst.len.1]; exact hsm.1
  have HSM := hide hsm
  have HS0 := hide (vstate_of (w := W0) (S := (· = b)) (r := w.heap.size + 1) (hR1.only ho3 (by omega)) (by omega) (show w.heap.size + 1 < W1.heap.size by omega) (by omega) hst (fun j hj => by subst hj; omega) (fun j hj => by subst hj; exact hC3) ((Only.of_below HAL1.out).trans ho3) 39)
  have hrx : w.heap.size + 1 < w3.heap.size := by omega
  clear hO hst hC3 ho3 hR1 x0 x1 f0 f1 xl HSO1 HC1 HA1 HW HAL1 hz1 hsm
  go_wp2_with (fail)
  refine (l1Below_any b 14 _ (HS0.out.cur b rfl) (by omega)).mono ?_
  rintro e w5 ⟨q, rfl, hq0, -, -, hC5, ho5⟩
  have HS := hide (HS0.out.draw (fun j hj => by subst hj; exact hC5) ho5)
  clear hC5 ho5 HS0
  have hald := hide (fun o1 => (((Below.refl w5.heap.size w5).alloc (Nat.le_refl _) o1).drew : Below w5.heap.size w5 (w5.alloc o1).drew))
  have HSZ := hide (show W0.heap.size ≤ w5.heap.size from HS.out.only.size)
  have hqm := hide HS.out.st.len.2
  rcases (show q = 0 ∨ q = 1 ∨ q = 2 ∨ q = 3 ∨ 4 ≤ q by omega) with rfl | rfl | rfl | rfl | hq5
  · rcases Nat.eq_zero_or_pos tn with hn0 | hn0
    · subst hn0
      obtain ⟨y0, y1, g0, g1, yl⟩ := HS.out.box
      obtain ⟨r0, r1, i0, i1, rl⟩ := HS.out.res
      have HFIN := hide (HS.out.fin (.slice T 0 tc) (.slice Q qm qk))
      go_wp2
      exact bodyPost_ret (v := .agg #[.slice T 0 tc, .slice Q qm qk]) (by simp [results, Try.results90, go_sem, r0, r1]) rfl
        ⟨_, _, rfl, ⟨_, statsO_up HFIN.out.1.o (by omega) (Nat.le_refl _)⟩, HFIN.out.2.1 b rfl, (Only.of_below HAL0.out).trans HFIN.out.2.2⟩
    · obtain ⟨g, rfl, hg1, hg2⟩ := own_form HS.out.st.tot hn0
      have hn1 : (0 : Int) < tn := by omega
      obtain ⟨y0, y1, g0, g1, yl⟩ := HS.out.box
      go_wp2
      go_region_law (first
        | (go_simp; go_at_call 45; refine (l1PickInt_any b (some ⟨w5.heap.size, 0, none⟩) 5 5 pickT _ ((HS.out.cur b rfl).keep (hald.out _)) (ints_lit w5 pickT _) (fun _ => lit_apart (HS.out.cur b rfl)) (by omega) (by omega)).mono ?_; rintro e w6 ⟨j, hj, rfl, hC6, ho6⟩; obtain ⟨u, hu⟩ : ∃ u, pickT[j]?.getD 0 = u := ⟨_, rfl⟩; rw [hu]; clear hu; have HS6 := hide ((HS.out.keep (hald.out _)).draw (fun j hj => by subst hj; exact hC6) ho6); obtain ⟨y60, y61, g60, g61, yl6⟩ := HS6.out.box; have hf6 := HS6.out.st.tot.frozenAt 0; have hc6 : w6.cell? ⟨g, 0, none⟩ = some (.int .i64 (t.totals[0]?.getD 0)) := (by obtain ⟨ad, e9, -, hc9⟩ := (ints_of HS6.out.st.tot).at_ (k := 0) hn0; injection e9 with e9; subst e9; simpa [Addr.add] using hc9); clear hC6 ho6))
      all_goals
        have HS9 := hide (HS6.out.setTot (i := 0) (u := u) rfl)
        clear hf6 hc6 y0 y1 g0 g1 yl y60 y61 g60 g61 yl6
        obtain ⟨y0, y1, g0, g1, yl⟩ := HS9.out.box
        obtain ⟨r0, r1, i0, i1, rl⟩ := HS9.out.res
        have HFIN := hide (HS9.out.fin (.slice (some ⟨g, 0, none⟩) tn tc) (.slice Q qm qk))
        go_wp2
        exact bodyPost_ret (v := .agg #[.slice (some ⟨g, 0, none⟩) tn tc, .slice Q qm qk]) (by simp [results, Try.results90, go_sem, r0, r1]) rfl
          ⟨_, _, rfl, ⟨_, statsO_up HFIN.out.1.o (by omega) (Nat.le_refl _)⟩, HFIN.out.2.1 b rfl, (Only.of_below HAL0.out).trans HFIN.out.2.2⟩
  · obtain ⟨y0, y1, g0, g1, yl⟩ := HS.out.box
    go_wp2_with (at_builtin; go_must (refine wpList_append_one w5 rfl _ _ 28 rfl W0.heap.size 3 (.int .i64 0) 1 8 Try.underlying28 infoI rfl (by decide) _ tn _ [.int .i64 0] rfl HS.out.st.tot _ rfl rfl (by simp [Value.oneCell']) rfl (by unfold maxLen; omega) (by omega) HSZ.out ?_); intro v' w9 hown9 hb9 hn9 hg9; obtain ⟨D9, m9, rfl⟩ := own_shape hown9; obtain ⟨z0, z1, i0, i1, zl⟩ := (HS.out.turn0 hb9 hg9).2.1; obtain ⟨r0, r1, h0, h1, rl⟩ := (HS.out.turn0 hb9 hg9).1)
    have HS9 := hide (HS.out.addTot (T2 := D9) (c2 := m9) hown9 hb9 hg9 hn9 (by omega))
    have HFIN := hide (HS9.out.fin (.slice D9 (tn + 1) m9) (.slice Q qm qk))
    exact bodyPost_ret (v := .agg #[.slice D9 (tn + 1) m9, .slice Q qm qk]) (by simp [results, Try.results90, go_sem, r0, r1]) rfl
      ⟨_, _, rfl, ⟨_, statsO_up HFIN.out.1.o (by omega) (Nat.le_refl _)⟩, HFIN.out.2.1 b rfl, (Only.of_below HAL0.out).trans HFIN.out.2.2⟩
  · rcases Nat.eq_zero_or_pos qm with hn0 | hn0
    · subst hn0
      obtain ⟨y0, y1, g0, g1, yl⟩ := HS.out.box
      obtain ⟨r0, r1, i0, i1, rl⟩ := HS.out.res
      have HFIN := hide (HS.out.fin (.slice T tn tc) (.slice Q 0 qk))
      go_wp2
      exact bodyPost_ret (v := .agg #[.slice T tn tc, .slice Q 0 qk]) (by simp [results, Try.results90, go_sem, r0, r1]) rfl
        ⟨_, _, rfl, ⟨_, statsO_up HFIN.out.1.o (by omega) (Nat.le_refl _)⟩, HFIN.out.2.1 b rfl, (Only.of_below HAL0.out).trans HFIN.out.2.2⟩
    · obtain ⟨gQ, A', n', c', rfl, hQc, hQf, hrr, hro, hn', hgQ⟩ := HS.out.st.row hn0
      have HNL := hide hn'
      clear hn'
      have hgB := (HS.out.st.bag.lt (HS.out.blk0 rfl)).1
      have hq1 : (0 : Int) < qm := by omega
      rcases Nat.eq_zero_or_pos n' with hz | hz
      · subst hz
        obtain ⟨y0, y1, g0, g1, yl⟩ := HS.out.box
        obtain ⟨r0, r1, i0, i1, rl⟩ := HS.out.res
        have HFIN := hide (HS.out.fin (.slice T tn tc) (.slice (some ⟨gQ, 0, none⟩) qm qk))
        go_wp2
        exact bodyPost_ret (v := .agg #[.slice T tn tc, .slice (some ⟨gQ, 0, none⟩) qm qk]) (by simp [results, Try.results90, go_sem, r0, r1]) rfl
          ⟨_, _, rfl, ⟨_, statsO_up HFIN.out.1.o (by omega) (Nat.le_refl _)⟩, HFIN.out.2.1 b rfl, (Only.of_below HAL0.out).trans HFIN.out.2.2⟩
      · obtain ⟨gR, rfl, hR1, hR2⟩ := own_form hro hz
        have hz1 : (0 : Int) < n' := by omega
        obtain ⟨y0, y1, g0, g1, yl⟩ := HS.out.box
        have hb3 : n' ≤ 1048576 := by
          have e : t.cells[0]?.getD [] ∈ t.cells := by
            rw [getD_of_lt (by have := hqm.out; omega)]
            exact List.getElem_mem _
          have := HS.out.st.b3 _ e
          have := HNL.out
          omega
        go_wp2
        go_region_law (first
          | (go_simp; go_at_call 45; refine (l1PickInt_any b (some ⟨w5.heap.size, 0, none⟩) 3 3 pickX _ ((HS.out.cur b rfl).keep (hald.out _)) (ints_lit w5 pickX _) (fun _ => lit_apart (HS.out.cur b rfl)) (by omega) (by omega)).mono ?_; rintro e w6 ⟨j, hj, rfl, hC6, ho6⟩; obtain ⟨u, hu⟩ : ∃ u, pickX[j]?.getD 0 = u := ⟨_, rfl⟩; rw [hu]; clear hu; have HS6 := hide ((HS.out.keep (hald.out _)).draw (fun j hj => by subst hj; exact hC6) ho6); obtain ⟨y60, y61, g60, g61, yl6⟩ := HS6.out.box; have hro6 := hide (own_only (own_below hro (hald.out _)) ho6 (fun j hj e => by have := (hro.lt j hj).1; omega)); have hf6 := hro6.out.frozenAt 0; have hc6 : w6.cell? ⟨gR, 0, none⟩ = some (.int .i64 ((t.cells[0]?.getD [])[0]?.getD 0)) := (by obtain ⟨ad, e9, -, hc9⟩ := (ints_of hro6.out).at_ (k := 0) hz; injection e9 with e9; subst e9; simpa [Addr.add] using hc9); have hQ6 : w6.cell? ⟨gQ, 0, none⟩ = some (.slice (some ⟨gR, 0, none⟩) n' c') := ((ho6.cell (p := ⟨gQ, 0, none⟩) (by show ¬ gQ = b; omega) (Nat.lt_of_lt_of_le hgQ (hald.out _).size)).trans ((hald.out _).cell (p := ⟨gQ, 0, none⟩) hgQ)).trans hQc; clear hC6 ho6))
        all_goals
          obtain ⟨rr9, hS9⟩ := HS6.out.setCell (i := 0) (j := 0) (u := u) hn0 hrr hro6.out hb3
          have HS9 := hide hS9
          clear hS9 hf6 hc6 hQ6 y0 y1 g0 g1 yl y60 y61 g60 g61 yl6
          obtain ⟨y0, y1, g0, g1, yl⟩ := HS9.out.box
          obtain ⟨r0, r1, i0, i1, rl⟩ := HS9.out.res
          have HFIN := hide (HS9.out.fin (.slice T tn tc) (.slice (some ⟨gQ, 0, none⟩) qm qk))
          go_wp2
          exact bodyPost_ret (v := .agg #[.slice T tn tc, .slice (some ⟨gQ, 0, none⟩) qm qk]) (by simp [results, Try.results90, go_sem, r0, r1]) rfl
            ⟨_, _, rfl, ⟨_, statsO_up HFIN.out.1.o (by omega) (Nat.le_refl _)⟩, HFIN.out.2.1 b rfl, (Only.of_below HAL0.out).trans HFIN.out.2.2⟩
  · rcases Nat.eq_zero_or_pos qm with hn0 | hn0
    · subst hn0
      obtain ⟨y0, y1, g0, g1, yl⟩ := HS.out.box
      obtain ⟨r0, r1, i0, i1, rl⟩ := HS.out.res
      have HFIN := hide (HS.out.fin (.slice T tn tc) (.slice Q 0 qk))
      go_wp2
      exact bodyPost_ret (v := .agg #[.slice T tn tc, .slice Q 0 qk]) (by simp [results, Try.results90, go_sem, r0, r1]) rfl
        ⟨_, _, rfl, ⟨_, statsO_up HFIN.out.1.o (by omega) (Nat.le_refl _)⟩, HFIN.out.2.1 b rfl, (Only.of_below HAL0.out).trans HFIN.out.2.2⟩
    · obtain ⟨gQ, A', n', c', rfl, hQc, hQf, hrr, hro, hn', hgQ⟩ := HS.out.st.row hn0
      have HNL := hide hn'
      clear hn'
      have hq1 : (0 : Int) < qm := by omega
      obtain ⟨y0, y1, g0, g1, yl⟩ := HS.out.box
      have hb3 : n' ≤ 1000 := by
        have e : t.cells[0]?.getD [] ∈ t.cells := by
          rw [getD_of_lt (by have := hqm.out; omega)]
          exact List.getElem_mem _
        have := HSM.out.2 _ e
        have := HNL.out
        omega
      have HSD := hide (HS.out.keep (hald.out (.cells #[.int .i64 0] 3)))
      have HRO := hide (own_below hro (hald.out (.cells #[.int .i64 0] 3)))
      go_wp2
      go_region_law (first
        | (refine step_append_src _ rfl (.tmp 63) (.tmp 64) 28 rfl W0.heap.size 3 (.int .i64 0) 1 8 Try.underlying28 infoI rfl (by decide) (.slice A' n' c') n' ((t.cells[0]?.getD []).map (Value.int .i64)) [.int .i64 0] rfl HRO.out (some ⟨w5.heap.size, 0, none⟩) 1 1 rfl rfl (own_one _ _) (by simp [Value.oneCell']) (by unfold maxLen; omega) (by omega) (by have := HSZ.out; simp; omega) ?_; intro v' w9 hown9 hb9 hg9 hn9; obtain ⟨D9, m9, rfl⟩ := own_shape hown9; obtain ⟨⟨r90, r91, i90, i91, rl9⟩, ⟨y90, y91, g90, g91, yl9⟩, -, -, hout9⟩ := HSD.out.turnR (i := 0) hn0 hrr hb9 hg9; have hQf9 := hout9.frozenAt 0; have hQc9 : w9.cell? ⟨gQ, 0, none⟩ = some (.slice A' n' c') := (hout9.cellAt 0 (by omega)).trans ((HS.out.outer.cellAt 0 (by omega)).symm.trans hQc)))
      all_goals
        obtain ⟨rr9, hS9⟩ := HSD.out.newRow (i := 0) (u := t.cells[0]?.getD [] ++ [0]) hn0 rfl hrr (by simpa using hown9) hb9 hg9 hn9 (by rw [List.length_append]; have := HNL.out; simp; omega)
        have HS9 := hide hS9
        clear hS9 hQf9 hQc9 hout9 r90 r91 i90 i91 rl9 y90 y91 g90 g91 yl9 y0 y1 g0 g1 yl hown9 hb9 hg9 hn9
        obtain ⟨y0, y1, g0, g1, yl⟩ := HS9.out.box
        obtain ⟨r0, r1, i0, i1, rl⟩ := HS9.out.res
        have HFIN := hide (HS9.out.fin (.slice T tn tc) (.slice (some ⟨gQ, 0, none⟩) qm qk))
        go_wp2
        exact bodyPost_ret (v := .agg #[.slice T tn tc, .slice (some ⟨gQ, 0, none⟩) qm qk]) (by simp [results, Try.results90, go_sem, r0, r1]) rfl
          ⟨_, _, rfl, ⟨_, statsO_up HFIN.out.1.o (by omega) (Nat.le_refl _)⟩, HFIN.out.2.1 b rfl, (Only.of_below HAL0.out).trans HFIN.out.2.2⟩
  · have h0' : (q == 0) = false := beq_eq_false_iff_ne.2 (by omega)
    have h1' : (q == 1) = false := beq_eq_false_iff_ne.2 (by omega)
    have h2' : (q == 2) = false := beq_eq_false_iff_ne.2 (by omega)
    have h3' : (q == 3) = false := beq_eq_false_iff_ne.2 (by omega)
    obtain ⟨y0, y1, g0, g1, yl⟩ := HS.out.box
    obtain ⟨r0, r1, i0, i1, rl⟩ := HS.out.res
    have HFIN := hide (HS.out.fin (.slice T tn tc) (.slice Q qm qk))
    go_wp2
    exact bodyPost_ret (v := .agg #[.slice T tn tc, .slice Q qm qk]) (by simp [results, Try.results90, go_sem, r0, r1]) rfl
      ⟨_, _, rfl, ⟨_, statsO_up HFIN.out.1.o (by omega) (Nat.le_refl _)⟩, HFIN.out.2.1 b rfl, (Only.of_below HAL0.out).trans HFIN.out.2.2⟩
end Go.Proofs.Ytjdncobdecdhmaa
namespace Go.Proofs.Ytjdncobdecdhmaa
open Go.RowKit
set_option maxRecDepth 100000

def namesL : List ByteArray := [⟨#[97, 103, 101]⟩, ⟨#[115, 105, 122, 101]⟩, ⟨#[99, 111, 108, 111, 117, 114]⟩, ⟨#[107]⟩, ⟨#[108, 111, 110, 103, 110, 97, 109, 101]⟩]
def valsL : List ByteArray := [⟨#[114, 101, 100]⟩, ⟨#[98, 108, 117, 101]⟩, ⟨#[120]⟩, ⟨#[103, 114, 101, 101, 110]⟩]
def badNames : List ByteArray := [⟨#[]⟩, ⟨#[85, 112, 112, 101, 114]⟩, ⟨#[119, 97, 121, 116, 111, 111, 108, 111, 110, 103]⟩, ⟨#[97, 32, 98]⟩]
def badVals : List ByteArray := [⟨#[114, 101, 100]⟩, ⟨#[102, 105, 102, 116, 104]⟩, ⟨#[]⟩]
theorem namesL_size : ∀ k, k < 5 → (namesL[k]?.getD ByteArray.empty).size ≤ 16 := by decide
theorem valsL_size : ∀ k, k < 4 → (valsL[k]?.getD ByteArray.empty).size ≤ 16 := by decide
theorem badNames_size : ∀ k, k < 4 → (badNames[k]?.getD ByteArray.empty).size ≤ 16 := by decide
theorem badVals_size : ∀ k, k < 3 → (badVals[k]?.getD ByteArray.empty).size ≤ 16 := by decide
/-- A tiny attribute. -/
def attrTiny (a : AttrD) : Prop := a.name.size ≤ 16 ∧ (∀ s ∈ a.vals, s.size ≤ 16) ∧ a.cuts.length ≤ 8 ∧ a.vals.length ≤ 8
theorem attrTiny.small {a : AttrD} (h : attrTiny a) : attrSmall a := ⟨by have := h.1; omega, fun s hs => by have := h.2.1 s hs; omega, by have := h.2.2.1; omega, by have := h.2.2.2; omega⟩
theorem one_more {l : List ByteArray} {u : ByteArray} (h : ∀ s ∈ l, s.size ≤ 16) (hu : u.size ≤ 16) : ∀ s ∈ l ++ [u], s.size ≤ 16 := by
  intro s hs
  rcases List.mem_append.1 hs with hs | hs
  · exact h s hs
  · rw [List.mem_singleton.1 hs]; exact hu

set_option maxHeartbeats 8000000 in
theorem l5RightAttr_any (b i : Nat) (w : World) (h : Cur w b) (hi : i < 5) :
    Calls Try.prog 120 #[.pointer (some ⟨b, 0, none⟩), .int .i64 i] w fun e w' => ∃ a D1 n1 m1 D2 n2 m2, e = .returned (.agg #[.string a.name, .slice D1 n1 m1, .slice D2 n2 m2]) ∧
      Bag w.heap.size 2 w' (attrRows D1 n1 m1 D2 n2 m2 a) ∧ a.name.size ≤ 16 ∧ (∀ s ∈ a.vals, s.size ≤ 16) ∧ n1 ≤ 3 ∧ n2 ≤ 4 ∧ (∀ k, has 2 (attrRows D1 n1 m1 D2 n2 m2 a) k → w.heap.size < k) ∧ Cur w' b ∧ Only (· = b) w w' := by
  have HC := hide h
  have hbw := h.lt
  clear h
  have hrem : (i : Int) % 5 = i := by omega
  obtain ⟨nm, hnm, hsz⟩ : ∃ nm, (namesL.map Value.string)[i]? = some (.string nm) ∧ nm.size ≤ 16 := ⟨namesL[i]?.getD ByteArray.empty, by
    rw [List.getElem?_map, List.getElem?_eq_getElem (show i < namesL.length from hi)]; rfl, namesL_size i hi⟩
  obtain ⟨W0, hW0⟩ : ∃ W, W = w.alloc (.cells #[.string ⟨#[]⟩, .slice none 0 0, .slice none 0 0] 73) := ⟨_, rfl⟩
  have hld : ∀ h : i < (namesL.map Value.string).length, (namesL.map Value.string)[i]'h = .string nm := fun h => by rw [List.getElem?_eq_getElem h] at hnm; exact Option.some.inj hnm
  have HZ0 := hide (show W0.heap.size = w.heap.size + 1 by rw [hW0]; simp)
  have hR0 := BoxA.new w (.string ⟨#[]⟩) (.slice none 0 0) (.slice none 0 0) 73
  rw [← hW0] at hR0
  have hal0 : Below w.heap.size w W0 := by rw [hW0]; exact (Below.refl _ _).alloc (Nat.le_refl _) _
  have hal1 : Below W0.heap.size W0 ((W0.alloc (.cells (namesL.map Value.string).toArray 9)).alloc (.cells #[.string nm, .slice none 0 0, .slice none 0 0] 73)) := ((Below.refl _ _).alloc (Nat.le_refl _) _).alloc (by simp) _
  have hX := BoxA.new (W0.alloc (.cells (namesL.map Value.string).toArray 9)) (.string nm) (.slice none 0 0) (.slice none 0 0) 73
  obtain ⟨W1, hW1⟩ : ∃ W, W = (W0.alloc (.cells (namesL.map Value.string).toArray 9)).alloc (.cells #[.string nm, .slice none 0 0, .slice none 0 0] 73) := ⟨_, rfl⟩
  have hz1 : (W0.alloc (.cells (namesL.map Value.string).toArray 9)).heap.size = w.heap.size + 1 + 1 := by simp [HZ0.out]
  rw [hz1, ← hW1] at hX
  rw [← hW1] at hal1
  have hR := hR0.keep hal1
  have HW0 := hide hW0
  have HW1 := hide hW1
  clear hW0 hW1 hz1 hR0
  go_enter Try.func120, Try.ntmps120
  simp only [namesL, List.map_cons, List.map_nil] at hld
  have hW1' := HW1.out
  rw [HW0.out] at hW1'
  simp only [namesL, List.map_cons, List.map_nil] at hW1'
  have HW := hide hW1'
  have hal : Below w.heap.size w W1 := bthen hal0 hal1
  have HS := hide (show AState w b w.heap.size (w.heap.size + 1 + 1) W1 none 0 0 none 0 0 ⟨nm, [], []⟩ from
    ⟨by omega, hR, hX, attr_start _ _ _, (fun k e => by cases e), (fun k e => by cases e), HC.out.keep hal, Only.of_below hal⟩)
  clear hnm hW1' HW0 HW1 hal0 hal1 HZ0 hX hR hal HC
  go_wp2_with (fail)
  rw [← HW.out]
  refine (l1Once_any b 2 _ HS.out.cur (by omega)).mono ?_
  rintro e w2 ⟨x, rfl, hC2, ho2⟩
  replace HS := hide (HS.out.draw hC2 ho2)
  clear ho2 hC2 HW hld hrem
  cases x
  · go_wp2_with (fail)
    refine (l1Below_any b 3 _ HS.out.cur (by omega)).mono ?_
    rintro e w3 ⟨x, rfl, hx0, hx1, -, hC3, ho3⟩
    replace HS := hide (HS.out.draw hC3 ho3)
    clear hC3 ho3
    obtain ⟨N, hN, hN4⟩ : ∃ N : Nat, 2 + x = N ∧ N ≤ 4 := ⟨(2 + x).toNat, by omega, by have := hx1 (by omega); omega⟩
    clear hx0 hx1
    go_wp2
    go_loopw [10] (fun j W => ∃ K : Nat, K ≤ N ∧ j = .int .i64 K ∧ (∃ A2 c2 l, AState w b w.heap.size (w.heap.size + 1 + 1) W none 0 0 A2 K c2 ⟨nm, [], l⟩ ∧ Hid (∀ s ∈ l, s.size ≤ 16))) (fun j _ => N - (intOf j).toNat)
    case atStart => exact ⟨0, Nat.zero_le _, rfl, ⟨none, 0, [], HS.out, fun s hs => by cases hs⟩⟩
    case round =>
      clear HS
      obtain ⟨K, hk, rfl, ⟨A2, c2, l, hS, hl⟩⟩ := hrel
      have HS := hide hS
      clear hS
      by_cases hlt : K < N
      · obtain ⟨u, hu, hus⟩ : ∃ u, (valsL.map Value.string)[K]? = some (.string u) ∧ u.size ≤ 16 := ⟨valsL[K]?.getD ByteArray.empty, by
          rw [List.getElem?_map, List.getElem?_eq_getElem (show K < valsL.length by show K < 4; omega)]; rfl, valsL_size K (by omega)⟩
        simp only [valsL, List.map_cons, List.map_nil] at hu
        obtain ⟨x0, x1, x2, f0, f1, f2, xl⟩ := HS.out.box
        have hZ3 : w.heap.size < wr.heap.size := HS.out.res.lt
        have HSZ := hide (Nat.le_of_lt hZ3)
        have hK4 : (K : Int) < 4 := by omega
        have xl2 : w.heap.size + 1 < wr.heap.size := by omega
        have hal : ∀ o1 o2, Below wr.heap.size wr ((wr.alloc o1).alloc o2).drew := fun o1 o2 => (((Below.refl _ _).alloc (Nat.le_refl _) o1).alloc (by simp) o2).drew
        have HAL := hide hal
        have HUS := hide hus
        clear hus hal
        go_wp2
        go_region_law (refine step_append_src _ rfl (.tmp 51) (.tmp 56) 26 rfl w.heap.size 9 (.string ⟨#[]⟩) 1 16 Try.underlying26 infoS rfl (by decide) (.slice A2 K c2) K (l.map Value.string) [.string u] rfl (((attr_own2 HS.out.bag).alloc _).alloc _) _ 1 1 rfl rfl (new_cells (by simp) _ _) (by simp [Value.oneCell']) (by unfold maxLen; omega) (by omega) (by have := HSZ.out; simp; omega) ?_; intro v' w9 hown9 hb9 hg9 hn9; obtain ⟨D9, m9, rfl⟩ := own_shape hown9; obtain ⟨y0, y1, y2, g0, g1, g2, yl⟩ := ((HS.out.keep (HAL.out _ _)).turn2 hb9 hg9).2.1)
        all_goals
          obtain ⟨A9, c9, e9, hS9⟩ := (HS.out.keep (HAL.out _ _)).val hown9 hb9 hg9 hn9
          injection e9 with e91 _ e92
          subst e91 e92
          have HS9 := hide hS9
          have HLL := hide (one_more hl.out HUS.out)
          clear hS9 hown9 hb9 hg9 hn9 x0 x1 x2 f0 f1 f2 xl xl2 hZ3 y0 y1 y2 g0 g1 g2 yl
          go_wp2
          exact ⟨⟨K + 1, by omega, by go_num, ⟨D9, m9, _, HS9.out, HLL⟩⟩, by simp [intOf]; omega⟩
      · obtain rfl : N = K := by omega
        obtain ⟨x0, x1, x2, f0, f1, f2, xl⟩ := HS.out.box
        obtain ⟨r0, r1, r2, g0, g1, g2, rl⟩ := HS.out.res
        go_wp2
        obtain ⟨t1, t2, t3⟩ := HS.out.fin (.string nm) (.slice none 0 0) (.slice A2 N c2)
        exact bodyPost_ret (v := .agg #[.string nm, .slice none 0 0, .slice A2 N c2]) (by simp [results, Try.results120, go_sem, r0, r1, r2]) rfl
          ⟨⟨nm, [], l⟩, none, 0, 0, A2, N, c2, rfl, t1, hsz, hl.out, by omega, by omega, (fun k hk => by have := (t1.lt hk).1; have := (HS.out.hasne hk).2; omega), t2, t3⟩
  · go_wp2_with (fail)
    refine (l1Below_any b 3 _ HS.out.cur (by omega)).mono ?_
    rintro e w3 ⟨x, rfl, hx0, hx1, -, hC3, ho3⟩
    replace HS := hide (HS.out.draw hC3 ho3)
    clear hC3 ho3
    obtain ⟨N, hN, hN4⟩ : ∃ N : Nat, 1 + x = N ∧ N ≤ 3 := ⟨(1 + x).toNat, by omega, by have := hx1 (by omega); omega⟩
    clear hx0 hx1
    go_wp2_with (fail)
    refine (l1PickInt_any b (some ⟨w3.heap.size, 0, none⟩) 5 5 [-9999, -7, 0, 3, 20] _ (HS.out.cur.keep ((Below.refl _ _).alloc (Nat.le_refl _) _)) (ints_lit w3 [-9999, -7, 0, 3, 20] _) (fun _ => lit_apart HS.out.cur) (by omega) (by omega)).mono ?_
    rintro e w4 ⟨k, hk, rfl, hC3, ho3⟩
    have hbA : Below w3.heap.size w3 (w3.alloc (.cells (([-9999, -7, 0, 3, 20] : List Int).map (Value.int .i64)).toArray 3)) := (Below.refl _ _).alloc (Nat.le_refl _) _
    replace HS := hide ((HS.out.keep hbA).draw hC3 ho3)
    clear hC3 ho3 hbA
    obtain ⟨t, ht, ht0, ht1⟩ : ∃ t, ([-9999, -7, 0, 3, 20] : List Int)[k]?.getD 0 = t ∧ -9999 ≤ t ∧ t ≤ 20 :=
      ⟨_, rfl, (show ∀ k, k < 5 → -9999 ≤ ([-9999, -7, 0, 3, 20] : List Int)[k]?.getD 0 by decide) k hk, (show ∀ k, k < 5 → ([-9999, -7, 0, 3, 20] : List Int)[k]?.getD 0 ≤ 20 by decide) k hk⟩
    rw [ht]
    clear ht hk
    go_wp2
    go_loopw [7, 8] (fun v j W => ∃ (K : Nat) (u : Int), K ≤ N ∧ v = .int .i64 u ∧ -9999 ≤ u ∧ u ≤ 20 + 6 * K ∧ j = .int .i64 K ∧ (∃ A1 c1 l, AState w b w.heap.size (w.heap.size + 1 + 1) W A1 K c1 none 0 0 ⟨nm, l, []⟩)) (fun _ j _ => N - (intOf j).toNat)
    case atStart => exact ⟨0, t, Nat.zero_le _, rfl, ht0, by omega, rfl, ⟨none, 0, [], HS.out⟩⟩
    case round =>
      clear HS ht0 ht1
      obtain ⟨K, u, hk, rfl, hu0, hu1, rfl, ⟨A1, c1, l, hS⟩⟩ := hrel
      have HS := hide hS
      clear hS
      by_cases hlt : K < N
      · obtain ⟨x0, x1, x2, f0, f1, f2, xl⟩ := HS.out.box
        have HSZ := hide HS.out.only.size
        go_wp2_with (at_builtin; go_must (refine wpList_append_one wr rfl _ _ 28 rfl w.heap.size 3 (.int .i64 0) 1 8 Try.underlying28 infoI rfl (by decide) _ K _ [.int .i64 u] rfl (attr_own1 HS.out.bag) _ rfl rfl (by simp [Value.oneCell']) rfl (by unfold maxLen; omega) (by omega) HSZ.out ?_); intro v' w9 hown9 hb9 hn9 hg9; obtain ⟨D9, m9, rfl⟩ := own_shape hown9; obtain ⟨y0, y1, y2, g0, g1, g2, yl⟩ := (HS.out.turn1 hb9 hg9).2.1)
        obtain ⟨A9, c9, e9, hS9⟩ := HS.out.cut hown9 hb9 hg9 hn9
        injection e9 with e91 _ e92
        subst e91 e92
        have HS9 := hide hS9
        clear hS9 hown9 hb9 hg9 hn9 x0 x1 x2 f0 f1 f2 xl y0 y1 y2 g0 g1 g2 yl
        refine (l1Below_any b 6 _ HS9.out.cur (by omega)).mono ?_
        rintro e w10 ⟨y, rfl, hy0, hy1, -, hC3, ho3⟩
        replace HS9 := hide (HS9.out.draw hC3 ho3)
        have hy2 := hy1 (by omega)
        clear hC3 ho3 hy1
        go_wp2
        go_roundw
        case rel => exact ⟨K + 1, u + 1 + y, by omega, by go_num, by omega, by omega, by go_num, ⟨D9, m9, _, HS9.out⟩⟩
        case measure => simp [intOf]; omega
      · obtain rfl : N = K := by omega
        obtain ⟨x0, x1, x2, f0, f1, f2, xl⟩ := HS.out.box
        obtain ⟨r0, r1, r2, g0, g1, g2, rl⟩ := HS.out.res
        go_wp2
        obtain ⟨t1, t2, t3⟩ := HS.out.fin (.string nm) (.slice A1 N c1) (.slice none 0 0)
        exact bodyPost_ret (v := .agg #[.string nm, .slice A1 N c1, .slice none 0 0]) (by simp [results, Try.results120, go_sem, r0, r1, r2]) rfl
          ⟨⟨nm, l, []⟩, A1, N, c1, none, 0, 0, rfl, t1, hsz, (by simp), by omega, by omega, (fun k hk => by have := (t1.lt hk).1; have := (HS.out.hasne hk).2; omega), t2, t3⟩

end Go.Proofs.Ytjdncobdecdhmaa
namespace Go.Proofs.Ytjdncobdecdhmaa
open Go.RowKit
set_option maxRecDepth 100000
set_option linter.unusedSimpArgs false


set_option maxHeartbeats 2000000 in
theorem l5DrawAttr_any (b : Nat) (w : World) (h : Cur w b) :
    Calls Try.prog 110 #[.pointer (some ⟨b, 0, none⟩)] w fun e w' => ∃ a D1 n1 m1 D2 n2 m2, e = .returned (.agg #[.string a.name, .slice D1 n1 m1, .slice D2 n2 m2]) ∧
      Bag w.heap.size 2 w' (attrRows D1 n1 m1 D2 n2 m2 a) ∧ attrTiny a ∧ Cur w' b ∧ Only (· = b) w w' := by
  have hbw := h.lt
  have hR := BoxA.new w (.string ⟨#[]⟩) (.slice none 0 0) (.slice none 0 0) 73
  have hal : Below w.heap.size w (w.alloc (.cells #[.string ⟨#[]⟩, .slice none 0 0, .slice none 0 0] 73)) := (Below.refl _ _).alloc (Nat.le_refl _) _
  have HC := hide (h.keep hal)
  clear h
  obtain ⟨W0, hW0⟩ : ∃ W, W = w.alloc (.cells #[.string ⟨#[]⟩, .slice none 0 0, .slice none 0 0] 73) := ⟨_, rfl⟩
  have HZ0 := hide (show W0.heap.size = w.heap.size + 1 by rw [hW0]; simp)
  rw [← hW0] at hR hal HC
  have HW := hide hW0
  clear hW0
  go_enter Try.func110, Try.ntmps110
  go_wp2_with (fail)
  rw [← HW.out]
  refine (l1Below_any b 5 _ HC.out (by omega)).mono ?_
  rintro e w2 ⟨x, rfl, hx0, hx1, -, hC2, ho2⟩
  have hR2 := hR.only ho2 (by omega)
  have hO2 := hide ((Only.of_below (S := (· = b)) hal).trans ho2)
  have hsz2 := hide (show w.heap.size + 1 ≤ w2.heap.size by rw [← HZ0.out]; exact ho2.size)
  have HC2 := hide hC2
  obtain ⟨i, rfl, hi⟩ : ∃ i : Nat, x = i ∧ i < 5 := ⟨x.toNat, by omega, by have := hx1 (by omega); omega⟩
  clear hR hal HC HZ0 HW ho2 hC2 hx0 hx1
  go_wp2_with (fail)
  refine (l5RightAttr_any b i _ HC2.out hi).mono ?_
  rintro e w3 ⟨a, D1, n1, m1, D2, n2, m2, rfl, hbag, hnm, hvs, hn1, hn2, -, hC3, ho3⟩
  have hz3 : w.heap.size + 1 ≤ w3.heap.size := Nat.le_trans hsz2.out ho3.size
  have hz2 := hsz2.out
  obtain ⟨W1, hW1⟩ : ∃ W, W = w3.alloc (.cells #[.string a.name, .slice D1 n1 m1, .slice D2 n2 m2] 73) := ⟨_, rfl⟩
  have hal1 : Below w3.heap.size w3 W1 := by rw [hW1]; exact (Below.refl _ _).alloc (Nat.le_refl _) _
  have hX := BoxA.new w3 (.string a.name) (.slice D1 n1 m1) (.slice D2 n2 m2) 73
  rw [← hW1] at hX
  have HS := hide (show AState w b w.heap.size w3.heap.size W1 D1 n1 m1 D2 n2 m2 a from
    ⟨by omega, (hR2.only ho3 (by omega)).keep hal1, hX, (hbag.mono (by omega)).below hal1,
      fun k e => by have := hbag.lt (k := k) ⟨0, by omega, e⟩; omega, fun k e => by have := hbag.lt (k := k) ⟨1, by omega, e⟩; omega, hC3.keep hal1, (hO2.out.trans ho3).trans (Only.of_below hal1)⟩)
  have HW1 := hide hW1
  have HL := hide HS.out.lens
  have HT := hide (show attrTiny a from ⟨hnm, hvs, by have := HL.out.1; omega, by have := HL.out.2; omega⟩)
  have hrx : w.heap.size < w3.heap.size := by omega
  clear hbag hnm hvs hC3 ho3 hal1 hX hW1 hR2 hO2 hsz2 HC2 hz2 hz3
  go_wp2_with (fail)
  rw [← HW1.out]
  clear HW1
  refine (l1Below_any b 14 _ HS.out.cur (by omega)).mono ?_
  rintro e w4 ⟨x, rfl, hx0, hx1, -, hC3, ho3⟩
  replace HS := hide (HS.out.draw hC3 ho3)
  clear hC3 ho3 hx1
  rcases (show x = 0 ∨ x = 1 ∨ x = 2 ∨ x = 3 ∨ x = 4 ∨ 5 ≤ x by omega) with rfl | rfl | rfl | rfl | rfl | hx5
  · go_wp2_with (fail)
    refine (l1Pick_any b (some ⟨w4.heap.size, 0, none⟩) 4 4 badNames _ (HS.out.cur.keep ((Below.refl _ _).alloc (Nat.le_refl _) _)) (strs_lit w4 badNames _) (fun _ => lit_apart HS.out.cur) (by omega) (by omega)).mono ?_
    rintro e w5 ⟨k, hk, rfl, hC3, ho3⟩
    have hbA : Below w4.heap.size w4 (w4.alloc (.cells (badNames.map Value.string).toArray 9)) := (Below.refl _ _).alloc (Nat.le_refl _) _
    replace HS := hide ((HS.out.keep hbA).draw hC3 ho3)
    obtain ⟨s, hs, hs16⟩ : ∃ s, badNames[k]?.getD ByteArray.empty = s ∧ s.size ≤ 16 := ⟨_, rfl, badNames_size k hk⟩
    rw [hs]
    clear hC3 ho3 hbA hs hk
    obtain ⟨x0, x1, x2, f0, f1, f2, xl⟩ := HS.out.box
    obtain ⟨r0, r1, r2, h0, h1, h2, rl⟩ := HS.out.res
    have HSZ := hide HS.out.only.size
    go_wp2
    obtain ⟨t1, t2, t3⟩ := (HS.out.set0 s).fin (.string s) (.slice D1 n1 m1) (.slice D2 n2 m2)
    exact bodyPost_ret (v := .agg #[.string s, .slice D1 n1 m1, .slice D2 n2 m2]) (by simp [results, Try.results110, go_sem, r0, r1, r2, rl, xl, hrx]) rfl
      ⟨⟨s, a.cuts, a.vals⟩, _, _, _, _, _, _, rfl, t1, ⟨hs16, HT.out.2⟩, t2, t3⟩
  · obtain ⟨x0, x1, x2, f0, f1, f2, xl⟩ := HS.out.box
    have HSZ := hide HS.out.only.size
    have hal := hide (fun o1 => (((Below.refl w4.heap.size w4).alloc (Nat.le_refl _) o1).drew : Below w4.heap.size w4 (w4.alloc o1).drew))
    go_wp2
    go_region_law (first
      | (go_simp; go_at_call 45; refine (l1PickInt_any b (some ⟨w4.heap.size, 0, none⟩) 4 4 [-10000, 9999, 9998, 0] _ (HS.out.cur.keep (hal.out _)) (ints_lit w4 [-10000, 9999, 9998, 0] _) (fun _ => lit_apart HS.out.cur) (by omega) (by omega)).mono ?_; rintro e w5 ⟨k, hk, rfl, hC3, ho3⟩; obtain ⟨u, hu⟩ : ∃ u, ([-10000, 9999, 9998, 0] : List Int)[k]?.getD 0 = u := ⟨_, rfl⟩; rw [hu]; have HS5 := hide ((HS.out.keep (hal.out _)).draw hC3 ho3); obtain ⟨y0, y1, y2, g0, g1, g2, yl⟩ := HS5.out.box; have HSZ5 := hide HS5.out.only.size; clear hC3 ho3 hu hk)
      | (refine step_append_src _ rfl (.tmp 19) (.tmp 23) 28 rfl w.heap.size 3 (.int .i64 0) 1 8 Try.underlying28 infoI rfl (by decide) (.slice D1 n1 m1) n1 (a.cuts.map (Value.int .i64)) [.int .i64 u] rfl ((attr_own1 HS5.out.bag).alloc _) _ 1 1 rfl rfl (new_cells rfl _ _) (by simp [Value.oneCell']) (by unfold maxLen; omega) (by omega) (by have := HSZ5.out; simp; omega) ?_; intro v' w9 hown9 hb9 hg9 hn9; obtain ⟨D9, m9, rfl⟩ := own_shape hown9; obtain ⟨z0, z1, z2, i0, i1, i2, zl⟩ := ((HS5.out.keep ((Below.refl _ _).alloc (Nat.le_refl _) _)).turn1 hb9 hg9).2.1))
    all_goals
      obtain ⟨A9, c9, e9, hS9⟩ := (HS5.out.keep ((Below.refl _ _).alloc (Nat.le_refl _) _)).cut hown9 hb9 hg9 hn9
      injection e9 with e91 _ e92
      subst e91 e92
      have HS9 := hide hS9
      clear hS9 hown9 hb9 hg9 hn9 x0 x1 x2 f0 f1 f2 xl y0 y1 y2 g0 g1 g2 yl z0 z1 z2 i0 i1 i2 zl HS HS5 HSZ HSZ5 hal
      obtain ⟨x0, x1, x2, f0, f1, f2, xl⟩ := HS9.out.box
      obtain ⟨r0, r1, r2, h0, h1, h2, rl⟩ := HS9.out.res
      go_wp2
      obtain ⟨t1, t2, t3⟩ := HS9.out.fin (.string a.name) (.slice D9 (n1 + 1) m9) (.slice D2 n2 m2)
      exact bodyPost_ret (v := .agg #[.string a.name, .slice D9 (n1 + 1) m9, .slice D2 n2 m2]) (by simp [results, Try.results110, go_sem, r0, r1, r2]) rfl
        ⟨⟨a.name, a.cuts ++ [u], a.vals⟩, _, _, _, _, _, _, rfl, t1, ⟨HT.out.1, HT.out.2.1, by have := HL.out.1; simp only [List.length_append, List.length_cons, List.length_nil]; omega, HT.out.2.2.2⟩, t2, t3⟩
  · obtain ⟨x0, x1, x2, f0, f1, f2, xl⟩ := HS.out.box
    have HSZ := hide HS.out.only.size
    have hal := hide (fun o1 => (((Below.refl w4.heap.size w4).alloc (Nat.le_refl _) o1).drew : Below w4.heap.size w4 (w4.alloc o1).drew))
    go_wp2
    go_region_law (first
      | (go_simp; go_at_call 44; refine (l1Pick_any b (some ⟨w4.heap.size, 0, none⟩) 3 3 badVals _ (HS.out.cur.keep (hal.out _)) (strs_lit w4 badVals _) (fun _ => lit_apart HS.out.cur) (by omega) (by omega)).mono ?_; rintro e w5 ⟨k, hk, rfl, hC3, ho3⟩; obtain ⟨u, hu, hus⟩ : ∃ u, badVals[k]?.getD ByteArray.empty = u ∧ u.size ≤ 16 := ⟨_, rfl, badVals_size k hk⟩; rw [hu]; have HUS := hide hus; have HS5 := hide ((HS.out.keep (hal.out _)).draw hC3 ho3); obtain ⟨y0, y1, y2, g0, g1, g2, yl⟩ := HS5.out.box; have HSZ5 := hide HS5.out.only.size; clear hC3 ho3 hu hk hus)
      | (refine step_append_src _ rfl (.tmp 29) (.tmp 33) 26 rfl w.heap.size 9 (.string ⟨#[]⟩) 1 16 Try.underlying26 infoS rfl (by decide) (.slice D2 n2 m2) n2 (a.vals.map Value.string) [.string u] rfl ((attr_own2 HS5.out.bag).alloc _) _ 1 1 rfl rfl (new_cells rfl _ _) (by simp [Value.oneCell']) (by unfold maxLen; omega) (by omega) (by have := HSZ5.out; simp; omega) ?_; intro v' w9 hown9 hb9 hg9 hn9; obtain ⟨D9, m9, rfl⟩ := own_shape hown9; obtain ⟨z0, z1, z2, i0, i1, i2, zl⟩ := ((HS5.out.keep ((Below.refl _ _).alloc (Nat.le_refl _) _)).turn2 hb9 hg9).2.1))
    all_goals
      obtain ⟨A9, c9, e9, hS9⟩ := (HS5.out.keep ((Below.refl _ _).alloc (Nat.le_refl _) _)).val hown9 hb9 hg9 hn9
      injection e9 with e91 _ e92
      subst e91 e92
      have HS9 := hide hS9
      clear hS9 hown9 hb9 hg9 hn9 x0 x1 x2 f0 f1 f2 xl y0 y1 y2 g0 g1 g2 yl z0 z1 z2 i0 i1 i2 zl HS HS5 HSZ HSZ5 hal
      obtain ⟨x0, x1, x2, f0, f1, f2, xl⟩ := HS9.out.box
      obtain ⟨r0, r1, r2, h0, h1, h2, rl⟩ := HS9.out.res
      go_wp2
      obtain ⟨t1, t2, t3⟩ := HS9.out.fin (.string a.name) (.slice D1 n1 m1) (.slice D9 (n2 + 1) m9)
      exact bodyPost_ret (v := .agg #[.string a.name, .slice D1 n1 m1, .slice D9 (n2 + 1) m9]) (by simp [results, Try.results110, go_sem, r0, r1, r2]) rfl
        ⟨⟨a.name, a.cuts, a.vals ++ [u]⟩, _, _, _, _, _, _, rfl, t1, ⟨HT.out.1, one_more HT.out.2.1 HUS.out, HT.out.2.2.1, by have := HL.out.2; simp only [List.length_append, List.length_cons, List.length_nil]; omega⟩, t2, t3⟩
  · 
    obtain ⟨x0, x1, x2, f0, f1, f2, xl⟩ := HS.out.box
    obtain ⟨r0, r1, r2, h0, h1, h2, rl⟩ := HS.out.res
    have HSZ := hide HS.out.only.size
    go_wp2
    obtain ⟨t1, t2, t3⟩ := (HS.out.cuts_lit [] (by decide)).fin (.string a.name) (.slice (some ⟨w4.heap.size, 0, none⟩) 0 0) (.slice D2 n2 m2)
    simp (disch := first | omega | (simp <;> omega)) only [World.setCell_alloc_past, List.map_nil, List.map_cons, List.length_nil, List.length_cons, Nat.zero_add] at t1 t2 t3
    exact bodyPost_ret (v := .agg #[.string a.name, .slice (some ⟨w4.heap.size, 0, none⟩) 0 0, .slice D2 n2 m2]) (by simp [results, Try.results110, go_sem, r0, r1, r2, rl, xl, hrx]) rfl
      ⟨⟨a.name, [], a.vals⟩, _, _, _, _, _, _, rfl, t1, ⟨HT.out.1, HT.out.2.1, Nat.zero_le _, HT.out.2.2.2⟩, t2, t3⟩
  · 
    obtain ⟨x0, x1, x2, f0, f1, f2, xl⟩ := HS.out.box
    obtain ⟨r0, r1, r2, h0, h1, h2, rl⟩ := HS.out.res
    have HSZ := hide HS.out.only.size
    go_wp2
    obtain ⟨t1, t2, t3⟩ := ((HS.out.cuts_lit [9998] (by decide)).vals_lit' (g := w4.heap.size + 1) (by simp) [] (by decide)).fin (.string a.name) (.slice (some ⟨w4.heap.size, 0, none⟩) 1 1) (.slice (some ⟨w4.heap.size + 1, 0, none⟩) 0 0)
    simp (disch := first | omega | (simp <;> omega)) only [World.setCell_alloc_past, List.map_nil, List.map_cons, List.length_nil, List.length_cons, Nat.zero_add] at t1 t2 t3
    exact bodyPost_ret (v := .agg #[.string a.name, .slice (some ⟨w4.heap.size, 0, none⟩) 1 1, .slice (some ⟨w4.heap.size + 1, 0, none⟩) 0 0]) (by simp [results, Try.results110, go_sem, r0, r1, r2, rl, xl, hrx]) rfl
      ⟨⟨a.name, [9998], []⟩, _, _, _, _, _, _, rfl, t1, ⟨HT.out.1, (by simp), (by simp), (by simp)⟩, t2, t3⟩
  · have h0 : (x == 0) = false := beq_eq_false_iff_ne.2 (by omega)
    have h1 : (x == 1) = false := beq_eq_false_iff_ne.2 (by omega)
    have h2 : (x == 2) = false := beq_eq_false_iff_ne.2 (by omega)
    have h3 : (x == 3) = false := beq_eq_false_iff_ne.2 (by omega)
    have h4 : (x == 4) = false := beq_eq_false_iff_ne.2 (by omega)
    obtain ⟨x0, x1, x2, f0, f1, f2, xl⟩ := HS.out.box
    obtain ⟨r0, r1, r2, i0, i1, i2, rl⟩ := HS.out.res
    have HSZ := hide HS.out.only.size
    go_wp2
    obtain ⟨t1, t2, t3⟩ := (HS.out).fin (.string a.name) (.slice D1 n1 m1) (.slice D2 n2 m2)
    exact bodyPost_ret (v := .agg #[.string a.name, .slice D1 n1 m1, .slice D2 n2 m2]) (by simp [results, Try.results110, go_sem, r0, r1, r2, rl, xl, hrx]) rfl
      ⟨a, _, _, _, _, _, _, rfl, t1, HT.out, t2, t3⟩
end Go.Proofs.Ytjdncobdecdhmaa
namespace Go.Proofs.Ytjdncobdecdhmaa
open Go.RowKit
set_option maxRecDepth 100000

/-- The result's box r, the schema's box x, its rows, the cursor b. -/
structure SState (w : World) (b r x : Nat) (W : World) (A : Option Addr) (n c : Nat) (D : Option Addr) (m k : Nat) (rr : Nat → Row) (d : SchemaD) : Prop where
  ord : b < w.heap.size ∧ w.heap.size ≤ r ∧ w.heap.size ≤ x ∧ r ≠ x
  res : BoxW W r (.slice none 0 0) (.slice none 0 0)
  box : BoxW W x (.slice A n c) (.slice D m k)
  sch : SchP w.heap.size W A n c D m k rr d
  ap1 : ∀ j, has (1 + 2 * n) rr j → j ≠ x ∧ j ≠ r
  ap2 : ∀ j, Value.ownBlock (.slice D m k) = some j → j ≠ x ∧ j ≠ r
  cur : Cur W b
  only : Only (· = b) w W
section
variable {w W W2 : World} {b r x : Nat} {A D : Option Addr} {n c m k : Nat} {rr : Nat → Row} {d : SchemaD}
theorem SState.draw (h : SState w b r x W A n c D m k rr d) (hC : Cur W2 b) (ho : Only (· = b) W W2) : SState w b r x W2 A n c D m k rr d := by
  have ho' := h.ord
  exact ⟨h.ord, h.res.only ho (by omega), h.box.only ho (by omega), h.sch.only ho (fun k e => by omega), h.ap1, h.ap2, hC, h.only.trans ho⟩
theorem SState.keep (h : SState w b r x W A n c D m k rr d) (hb : Below W.heap.size W W2) : SState w b r x W2 A n c D m k rr d :=
  ⟨h.ord, h.res.keep hb, h.box.keep hb, h.sch.below hb, h.ap1, h.ap2, h.cur.keep hb, h.only.trans (Only.of_below hb)⟩
/-- What stays when a row is written or laid anew. -/
def SKept (w : World) (b r x : Nat) (w9 : World) (A : Option Addr) (n c : Nat) (D : Option Addr) (m k : Nat) : Prop :=
  BoxW w9 r (.slice none 0 0) (.slice none 0 0) ∧ BoxW w9 x (.slice A n c) (.slice D m k) ∧ Cur w9 b ∧ Only (· = b) w w9
theorem SState.outer (h : SState w b r x W A n c D m k rr d) : W.ownsRow w.heap.size 73 3 (.slice A n c) n (rr 0).xs := h.sch.to.outer h.sch.bag (by omega)
theorem SState.blk0 (h : SState w b r x W A n c D m k rr d) {j : Nat} (hj : Value.ownBlock (.slice A n c) = some j) : has (1 + 2 * n) rr j := by
  refine ⟨0, by omega, ?_⟩
  unfold Row.blk
  rw [h.sch.to.head.2.2.1]
  exact hj
theorem SState.turn1 {w9 : World} (h : SState w b r x W A n c D m k rr d) (hb : Below w.heap.size W w9) (hg : W.grownBy w9 (Value.ownBlock (.slice A n c))) : SKept w b r x w9 A n c D m k := by
  have hs : Only (fun j => Value.ownBlock (.slice A n c) = some j) W w9 := Only.of_grown hg fun k hk => hk
  exact ⟨h.res.only hs (fun e => (h.ap1 _ (h.blk0 e)).2 rfl), h.box.only hs (fun e => (h.ap1 _ (h.blk0 e)).1 rfl), Cur.low h.cur h.ord.1 hb, h.only.low hb⟩
theorem SState.turn2 {w9 : World} (h : SState w b r x W A n c D m k rr d) (hb : Below w.heap.size W w9) (hg : W.grownBy w9 (Value.ownBlock (.slice D m k))) : SKept w b r x w9 A n c D m k := by
  have hs : Only (fun j => Value.ownBlock (.slice D m k) = some j) W w9 := Only.of_grown hg fun k hk => hk
  exact ⟨h.res.only hs (fun e => (h.ap2 _ e).2 rfl), h.box.only hs (fun e => (h.ap2 _ e).1 rfl), Cur.low h.cur h.ord.1 hb, h.only.low hb⟩
theorem SState.put1 {w9 : World} {A' : Option Addr} {n' c' : Nat} {rr' : Nat → Row} {d' : SchemaD} (h0 : SState w b r x W A n c D m k rr d) (h : SKept w b r x w9 A n c D m k)
    (hS : SchP w.heap.size w9 A' n' c' D m k rr' d') (hap : ∀ j, has (1 + 2 * n') rr' j → j ≠ x ∧ j ≠ r) : SState w b r x (w9.setCell ⟨x, 0, none⟩ (.slice A' n' c')) A' n' c' D m k rr' d' := by
  have ho' := h0.ord
  have hs := only_set (w := w9) (p := ⟨x, 0, none⟩) (.slice A' n' c')
  have hlow : Below w.heap.size w9 (w9.setCell ⟨x, 0, none⟩ (.slice A' n' c')) := (Below.refl _ _).setCell (p := ⟨x, 0, none⟩) ho'.2.2.1 _
  exact ⟨ho', h.1.only hs (by show ¬ x = r; omega), h.2.1.set0 _,
    ⟨hS.bag.only hs (fun j hj e => (hap j hj).1 (Eq.symm e)), hS.to, own_only hS.cls hs (fun j hj e => (h0.ap2 j hj).1 (Eq.symm e)), hS.sep, hS.b1, hS.b2, hS.s1, hS.s2⟩, hap, h0.ap2, Cur.low h.2.2.1 ho'.1 hlow, h.2.2.2.low hlow⟩
theorem SState.put2 {w9 : World} {D' : Option Addr} {m' k' : Nat} {d' : SchemaD} (h0 : SState w b r x W A n c D m k rr d) (h : SKept w b r x w9 A n c D m k)
    (hS : SchP w.heap.size w9 A n c D' m' k' rr d') (hap : ∀ j, Value.ownBlock (.slice D' m' k') = some j → j ≠ x ∧ j ≠ r) : SState w b r x (w9.setCell ⟨x, 1, none⟩ (.slice D' m' k')) A n c D' m' k' rr d' := by
  have ho' := h0.ord
  have hs := only_set (w := w9) (p := ⟨x, 1, none⟩) (.slice D' m' k')
  have hlow : Below w.heap.size w9 (w9.setCell ⟨x, 1, none⟩ (.slice D' m' k')) := (Below.refl _ _).setCell (p := ⟨x, 1, none⟩) ho'.2.2.1 _
  exact ⟨ho', h.1.only hs (by show ¬ x = r; omega), h.2.1.set1 _,
    ⟨hS.bag.only hs (fun j hj e => (h0.ap1 j hj).1 (Eq.symm e)), hS.to, own_only hS.cls hs (fun j hj e => (hap j hj).1 (Eq.symm e)), hS.sep, hS.b1, hS.b2, hS.s1, hS.s2⟩, h0.ap1, hap, Cur.low h.2.2.1 ho'.1 hlow, h.2.2.2.low hlow⟩
/-- One class more. -/
theorem SState.word {w9 : World} {v : Value} {u : ByteArray} (h : SState w b r x W A n c D m k rr d) (hv : w9.ownsRow w.heap.size 9 1 v (m + 1) (d.classes.map Value.string ++ [.string u])) (hb : Below w.heap.size W w9)
    (hg : W.grownBy w9 (Value.ownBlock (.slice D m k))) (hnew : ∀ g, v.ownBlock = some g → Value.ownBlock (.slice D m k) = some g ∨ W.heap.size ≤ g) (hm : m + 1 ≤ 1048576) (hu : u.size ≤ 1048576) :
    ∃ D2 k2, v = .slice D2 (m + 1) k2 ∧ SState w b r x (w9.setCell ⟨x, 1, none⟩ v) A n c D2 (m + 1) k2 rr ⟨d.attrs, d.classes ++ [u]⟩ := by
  obtain ⟨D2, k2, rfl, hS⟩ := h.sch.word hv hg hnew hm hu
  refine ⟨D2, k2, rfl, h.put2 (h.turn2 hb hg) hS fun j hj => ?_⟩
  rcases hnew j hj with q | q
  · exact h.ap2 j q
  · have := h.box.lt; have := h.res.lt; omega
/-- The first class alone. -/
theorem SState.first (h : SState w b r x W A n c D m k rr d) (hm : 1 ≤ m) : SState w b r x (W.setCell ⟨x, 1, none⟩ (.slice D 1 k)) A n c D 1 k rr ⟨d.attrs, d.classes.take 1⟩ :=
  h.put2 ⟨h.res, h.box, h.cur, h.only⟩ (h.sch.first hm) fun j hj => h.ap2 j (by cases D <;> exact hj)
/-- No attributes. -/
theorem SState.noattr (h : SState w b r x W A n c D m k rr d) :
    ∃ rr', SState w b r x ((W.alloc (.cells #[] 73)).setCell ⟨x, 0, none⟩ (.slice (some ⟨W.heap.size, 0, none⟩) 0 0)) (some ⟨W.heap.size, 0, none⟩) 0 0 D m k rr' ⟨[], d.classes⟩ := by
  have hal : Below W.heap.size W (W.alloc (.cells #[] 73)) := (Below.refl _ _).alloc (Nat.le_refl _) _
  have hk := h.keep hal
  refine ⟨_, h.put1 ⟨hk.res, hk.box, hk.cur, hk.only⟩ (h.sch.none_ h.only.size) fun j hj => ?_⟩
  obtain ⟨i, -, e⟩ := hj
  have e2 : some W.heap.size = some j := e
  injection e2 with e2
  have := h.box.lt; have := h.res.lt; omega
/-- One attribute more. -/
theorem SState.attr {W6 w9 : World} {D1 D2 : Option Addr} {n1 m1 n2 m2 : Nat} {a : AttrD} {v : Value} (h0 : SState w b r x W A n c D m k rr d) (h : SState w b r x W6 A n c D m k rr d)
    (ho : Bag W.heap.size 2 W6 (attrRows D1 n1 m1 D2 n2 m2 a)) (hsz : W.heap.size ≤ W6.heap.size)
    (hv : w9.ownsRow w.heap.size 73 3 v (n + 1) ((rr 0).xs ++ [.string a.name, .slice D1 n1 m1, .slice D2 n2 m2])) (hb : Below w.heap.size W6 w9) (hg : W6.grownBy w9 (Value.ownBlock (.slice A n c)))
    (hnew : ∀ g, v.ownBlock = some g → Value.ownBlock (.slice A n c) = some g ∨ W6.heap.size ≤ g) (hn : n + 1 ≤ 1048576) (hs : attrSmall a) :
    ∃ A2 c2 r', v = .slice A2 (n + 1) c2 ∧ SState w b r x (w9.setCell ⟨x, 0, none⟩ v) A2 (n + 1) c2 D m k r' ⟨d.attrs ++ [a], d.classes⟩ := by
  obtain ⟨A2, c2, r', rfl, hS, hh⟩ := h.sch.attr ho h0.only.size hsz (fun j hj => (h0.sch.bag.lt hj).2) (fun g hg => (h0.sch.cls.lt g hg).2) hv hg hnew hn hs
  refine ⟨A2, c2, r', rfl, h.put1 (h.turn1 hb hg) hS fun j hj => ?_⟩
  rcases hh j hj with q | q
  · exact h.ap1 j q
  · have := h0.box.lt; have := h0.res.lt; omega
/-- The result written. -/
theorem SState.fin (h : SState w b r x W A n c D m k rr d) (u0 u1 : Value) : SchP w.heap.size ((W.setCell ⟨r, 0, none⟩ u0).setCell ⟨r, 1, none⟩ u1) A n c D m k rr d ∧
    Cur ((W.setCell ⟨r, 0, none⟩ u0).setCell ⟨r, 1, none⟩ u1) b ∧ Only (· = b) w ((W.setCell ⟨r, 0, none⟩ u0).setCell ⟨r, 1, none⟩ u1) := by
  have hs : Only (fun j => r = j) W ((W.setCell ⟨r, 0, none⟩ u0).setCell ⟨r, 1, none⟩ u1) := ((Only.refl _ W).setCell (p := ⟨r, 0, none⟩) rfl _).setCell (p := ⟨r, 1, none⟩) rfl _
  have hlow : Below w.heap.size W ((W.setCell ⟨r, 0, none⟩ u0).setCell ⟨r, 1, none⟩ u1) := ((Below.refl _ _).setCell (p := ⟨r, 0, none⟩) h.ord.2.1 _).setCell (p := ⟨r, 1, none⟩) h.ord.2.1 _
  exact ⟨⟨h.sch.bag.only hs (fun j hj e => (h.ap1 j hj).2 (Eq.symm e)), h.sch.to, own_only h.sch.cls hs (fun j hj e => (h.ap2 j hj).2 (Eq.symm e)), h.sch.sep, h.sch.b1, h.sch.b2, h.sch.s1, h.sch.s2⟩, Cur.low h.cur h.ord.1 hlow, h.only.low hlow⟩
end
end Go.Proofs.Ytjdncobdecdhmaa
namespace Go.Proofs.Ytjdncobdecdhmaa
open Go.RowKit
set_option maxRecDepth 100000
set_option linter.unusedSimpArgs false

def classL : List ByteArray := [⟨#[110, 111]⟩, ⟨#[121, 101, 115]⟩]
def badClass : List ByteArray := [⟨#[110, 111]⟩, ⟨#[111, 116, 104, 101, 114]⟩, ⟨#[]⟩]
theorem badClass_size : ∀ k, k < 3 → (badClass[k]?.getD ByteArray.empty).size ≤ 16 := by decide

set_option maxHeartbeats 4000000 in
theorem l5Right_any (b : Nat) (w : World) (h : Cur w b) :
    Calls Try.prog 109 #[.pointer (some ⟨b, 0, none⟩)] w fun e w' => ∃ A n c D m k rr d, e = .returned (.agg #[.slice A n c, .slice D m k]) ∧ SchP w.heap.size w' A n c D m k rr d ∧ n ≤ 5 ∧ 2 ≤ m ∧ m ≤ 3 ∧ Cur w' b ∧ Only (· = b) w w' := by
  have HC := hide h
  have hbw := h.lt
  clear h
  obtain ⟨W0, hW0⟩ : ∃ W, W = w.alloc (.cells #[.slice none 0 0, .slice none 0 0] 43) := ⟨_, rfl⟩
  have HZ0 := hide (show W0.heap.size = w.heap.size + 1 by rw [hW0]; simp)
  have hR0 := BoxW.new w (.slice none 0 0) (.slice none 0 0) 43
  rw [← hW0] at hR0
  have hal0 : Below w.heap.size w W0 := by rw [hW0]; exact (Below.refl _ _).alloc (Nat.le_refl _) _
  obtain ⟨V, hV⟩ : ∃ W, W = W0.alloc (.cells (classL.map Value.string).toArray 9) := ⟨_, rfl⟩
  have hcls := own_lit (B := w.heap.size) (e := 9) W0 (classL.map Value.string) (by have := HZ0.out; omega) (by decide)
  have hal1 : Below W0.heap.size W0 V := by rw [hV]; exact (Below.refl _ _).alloc (Nat.le_refl _) _
  have HZ1 := hide (show V.heap.size = w.heap.size + 1 + 1 by rw [hV]; simp [HZ0.out])
  rw [← hV, HZ0.out] at hcls
  obtain ⟨W1, hW1⟩ : ∃ W, W = V.alloc (.cells #[.slice none 0 0, .slice (some ⟨w.heap.size + 1, 0, none⟩) 2 2] 43) := ⟨_, rfl⟩
  have hal2 : Below V.heap.size V W1 := by rw [hW1]; exact (Below.refl _ _).alloc (Nat.le_refl _) _
  have hX := BoxW.new V (.slice none 0 0) (.slice (some ⟨w.heap.size + 1, 0, none⟩) 2 2) 43
  rw [← hW1, HZ1.out] at hX
  have hsch : SchP w.heap.size W1 none 0 0 (some ⟨w.heap.size + 1, 0, none⟩) 2 2 (fun _ => ⟨73, 3, .slice none 0 0, 0, []⟩) ⟨[], classL⟩ :=
    ⟨Bag.one (s := ⟨73, 3, .slice none 0 0, 0, []⟩) (World.ownsRow_nil _ _ _ _), ⟨rfl, ⟨rfl, rfl, rfl, rfl⟩, fun i hi => by omega⟩, own_below hcls hal2, (fun g _ hr => by
      obtain ⟨i, -, e⟩ := hr
      cases e), by omega, by omega, by simp, by decide⟩
  have hal : Below w.heap.size w W1 := bthen hal0 (bthen hal1 hal2)
  have HS := hide (show SState w b w.heap.size (w.heap.size + 1 + 1) W1 none 0 0 (some ⟨w.heap.size + 1, 0, none⟩) 2 2 (fun _ => ⟨73, 3, .slice none 0 0, 0, []⟩) ⟨[], classL⟩ from
    ⟨by omega, hR0.keep (bthen hal1 hal2), hX, hsch, (fun j hj => by obtain ⟨i, -, e⟩ := hj; cases e), (fun j hj => by have e : some (w.heap.size + 1) = some j := hj; injection e with e; omega), HC.out.keep hal, Only.of_below hal⟩)
  have hWE : W1 = ((w.alloc (.cells #[.slice none 0 0, .slice none 0 0] 43)).alloc (.cells #[.string ⟨#[110, 111]⟩, .string ⟨#[121, 101, 115]⟩] 9)).alloc (.cells #[.slice none 0 0, .slice (some ⟨w.heap.size + 1, 0, none⟩) 2 2] 43) := by
    rw [hW1, hV, hW0]; rfl
  have HW := hide hWE
  clear hWE hsch hX hcls hal0 hal1 hal2 hal hR0 hW0 hW1 hV HZ0 HZ1 HC
  go_enter Try.func109, Try.ntmps109
  go_wp2_with (fail)
  rw [← HW.out]
  refine (l1Once_any b 3 _ HS.out.cur (by omega)).mono ?_
  rintro e wr ⟨x, rfl, hC2, ho2⟩
  replace HS := hide (HS.out.draw hC2 ho2)
  clear ho2 hC2 HW
  have hst : ∀ x : Bool, x = x := fun _ => rfl
  cases x
  · obtain ⟨D, m, k, rr, d, hS, hm2, hm3⟩ : ∃ D m k rr d, SState w b w.heap.size (w.heap.size + 1 + 1) wr none 0 0 D m k rr d ∧ 2 ≤ m ∧ m ≤ 3 := ⟨_, _, _, _, _, HS.out, by omega, by omega⟩
    clear HS
    have HS := hide hS
    clear hS
    go_wp2_with (fail)
    refine (l1Below_any b 5 _ HS.out.cur (by omega)).mono ?_
    rintro e w3 ⟨x, rfl, hx0, hx1, -, hC3, ho3⟩
    replace HS := hide (HS.out.draw hC3 ho3)
    clear hC3 ho3
    obtain ⟨N, hN, hN4⟩ : ∃ N : Nat, 1 + x = N ∧ N ≤ 5 := ⟨(1 + x).toNat, by omega, by have := hx1 (by omega); omega⟩
    clear hx0 hx1
    go_wp2
    go_loopw [5] (fun j W => ∃ K : Nat, K ≤ N ∧ j = .int .i64 K ∧ (∃ A c rr d, SState w b w.heap.size (w.heap.size + 1 + 1) W A K c D m k rr d)) (fun j _ => N - (intOf j).toNat)
    case atStart => exact ⟨0, Nat.zero_le _, rfl, none, 0, rr, d, HS.out⟩
    case round =>
      clear HS
      obtain ⟨K, hk, rfl, ⟨A, c, rr, d, hS⟩⟩ := hrel
      have HS := hide hS
      clear hS
      by_cases hlt : K < N
      · obtain ⟨x0, x1, f0, f1, xl⟩ := HS.out.box
        have HSD := hide (HS.out.keep ((Below.refl _ _).drew))
        go_wp2
        go_region_law (first
      | (go_simp; go_at_call 120; refine (l5RightAttr_any b K _ HSD.out.cur (by omega)).mono ?_; rintro e w5 ⟨a, D1, n1, m1, D2, n2, m2, rfl, hbag5, hnm, hvs, hn1, hn2, -, hC3, ho3⟩; have HS5 := hide (HSD.out.draw hC3 ho3); have HB5 := hide hbag5; obtain ⟨y0, y1, g0, g1, yl⟩ := HS5.out.box; have HSZ5 := hide HS5.out.only.size; have HWZ := hide (show wr.heap.size ≤ w5.heap.size from ho3.size); have HAS := hide (show attrSmall a from ⟨by omega, fun s hs => by have := hvs s hs; omega, by have := (ints_of (attr_own1 hbag5)).1; omega, by have := (strs_of (attr_own2 hbag5)).1; omega⟩); clear hC3 ho3 hbag5)
      | (refine step_append_src _ rfl (.tmp 24) (.tmp 28) 41 rfl w.heap.size 73 (.agg #[.string ⟨#[]⟩, .slice none 0 0, .slice none 0 0]) 3 64 Try.underlying41 infoA rfl (by decide) (.slice A K c) K (rr 0).xs [.string a.name, .slice D1 n1 m1, .slice D2 n2 m2] rfl ((HS5.out.outer).alloc _) _ 1 1 rfl rfl (new_cells rfl _ _) (by simp [Value.oneCell']) (by unfold maxLen; omega) (by omega) (by have := HSZ5.out; simp; omega) ?_; intro v' w9 hown9 hb9 hg9 hn9; obtain ⟨D9, m9, rfl⟩ := own_shape hown9; obtain ⟨z0, z1, i0, i1, zl⟩ := ((HS5.out.keep ((Below.refl _ _).alloc (Nat.le_refl _) _)).turn1 hb9 hg9).2.1))
        all_goals
          obtain ⟨A9, c9, r9, e9, hS9⟩ := SState.attr HS.out (HS5.out.keep ((Below.refl _ _).alloc (Nat.le_refl _) _)) (HB5.out.below ((Below.refl _ _).alloc (Nat.le_refl _) _)) (by simp; exact Nat.le_succ_of_le HWZ.out) hown9 hb9 hg9 hn9 (by omega) HAS.out
          injection e9 with e91 _ e92
          subst e91 e92
          have HS9 := hide hS9
          clear hS9 hown9 hb9 hg9 hn9 x0 x1 f0 f1 xl y0 y1 g0 g1 yl z0 z1 i0 i1 zl HSZ5 HSD HS HS5 HB5
          go_wp2
          exact ⟨⟨K + 1, by omega, by go_num, ⟨D9, m9, _, _, HS9.out⟩⟩, by simp [intOf]; omega⟩
      · obtain rfl : N = K := by omega
        obtain ⟨x0, x1, f0, f1, xl⟩ := HS.out.box
        obtain ⟨r0, r1, g0, g1, rl⟩ := HS.out.res
        go_wp2
        obtain ⟨t1, t2, t3⟩ := HS.out.fin (.slice A N c) (.slice D m k)
        exact bodyPost_ret (v := .agg #[.slice A N c, .slice D m k]) (by simp [results, Try.results109, go_sem, r0, r1]) rfl
          ⟨A, N, c, D, m, k, rr, d, rfl, t1, by omega, hm2, hm3, t2, t3⟩
  · obtain ⟨x0, x1, f0, f1, xl⟩ := HS.out.box
    have HSZ := hide HS.out.only.size
    go_wp2_with (at_builtin; go_must (refine wpList_append_one wr rfl _ _ 26 rfl w.heap.size 9 (.string ⟨#[]⟩) 1 16 Try.underlying26 infoS rfl (by decide) _ 2 _ [.string ⟨#[112, 101, 114, 104, 97, 112, 115]⟩] rfl HS.out.sch.cls _ rfl rfl (by simp [Value.oneCell']) rfl (by unfold maxLen; omega) (by omega) HSZ.out ?_); intro v' w9 hown9 hb9 hn9 hg9; obtain ⟨D9, m9, rfl⟩ := own_shape hown9; obtain ⟨y0, y1, g0, g1, yl⟩ := (HS.out.turn2 hb9 hg9).2.1)
    obtain ⟨A9, c9, e9, hS9⟩ := HS.out.word hown9 hb9 hg9 hn9 (by omega) (by decide)
    injection e9 with e91 _ e92
    subst e91 e92
    obtain ⟨D, m, k, rr, d, hS, hm2, hm3⟩ : ∃ D m k rr d, SState w b w.heap.size (w.heap.size + 1 + 1) (w9.setCell ⟨w.heap.size + 1 + 1, 1, none⟩ (.slice D9 (2 + 1) m9)) none 0 0 D m k rr d ∧ 2 ≤ m ∧ m ≤ 3 := ⟨_, _, _, _, _, hS9, by omega, by omega⟩
    clear HS
    have HS := hide hS
    clear hS hS9 hown9 hb9 hg9 hn9 x0 x1 f0 f1 xl y0 y1 g0 g1 yl HSZ
    refine (l1Below_any b 5 _ HS.out.cur (by omega)).mono ?_
    rintro e w3 ⟨x, rfl, hx0, hx1, -, hC3, ho3⟩
    replace HS := hide (HS.out.draw hC3 ho3)
    clear hC3 ho3
    obtain ⟨N, hN, hN4⟩ : ∃ N : Nat, 1 + x = N ∧ N ≤ 5 := ⟨(1 + x).toNat, by omega, by have := hx1 (by omega); omega⟩
    clear hx0 hx1
    go_wp2
    go_loopw [5] (fun j W => ∃ K : Nat, K ≤ N ∧ j = .int .i64 K ∧ (∃ A c rr d, SState w b w.heap.size (w.heap.size + 1 + 1) W A K c D m k rr d)) (fun j _ => N - (intOf j).toNat)
    case atStart => exact ⟨0, Nat.zero_le _, rfl, none, 0, rr, d, HS.out⟩
    case round =>
      clear HS
      obtain ⟨K, hk, rfl, ⟨A, c, rr, d, hS⟩⟩ := hrel
      have HS := hide hS
      clear hS
      by_cases hlt : K < N
      · obtain ⟨x0, x1, f0, f1, xl⟩ := HS.out.box
        have HSD := hide (HS.out.keep ((Below.refl _ _).drew))
        go_wp2
        go_region_law (first
      | (go_simp; go_at_call 120; refine (l5RightAttr_any b K _ HSD.out.cur (by omega)).mono ?_; rintro e w5 ⟨a, D1, n1, m1, D2, n2, m2, rfl, hbag5, hnm, hvs, hn1, hn2, -, hC3, ho3⟩; have HS5 := hide (HSD.out.draw hC3 ho3); have HB5 := hide hbag5; obtain ⟨y0, y1, g0, g1, yl⟩ := HS5.out.box; have HSZ5 := hide HS5.out.only.size; have HWZ := hide (show wr.heap.size ≤ w5.heap.size from ho3.size); have HAS := hide (show attrSmall a from ⟨by omega, fun s hs => by have := hvs s hs; omega, by have := (ints_of (attr_own1 hbag5)).1; omega, by have := (strs_of (attr_own2 hbag5)).1; omega⟩); clear hC3 ho3 hbag5)
      | (refine step_append_src _ rfl (.tmp 24) (.tmp 28) 41 rfl w.heap.size 73 (.agg #[.string ⟨#[]⟩, .slice none 0 0, .slice none 0 0]) 3 64 Try.underlying41 infoA rfl (by decide) (.slice A K c) K (rr 0).xs [.string a.name, .slice D1 n1 m1, .slice D2 n2 m2] rfl ((HS5.out.outer).alloc _) _ 1 1 rfl rfl (new_cells rfl _ _) (by simp [Value.oneCell']) (by unfold maxLen; omega) (by omega) (by have := HSZ5.out; simp; omega) ?_; intro v' w9 hown9 hb9 hg9 hn9; obtain ⟨D9, m9, rfl⟩ := own_shape hown9; obtain ⟨z0, z1, i0, i1, zl⟩ := ((HS5.out.keep ((Below.refl _ _).alloc (Nat.le_refl _) _)).turn1 hb9 hg9).2.1))
        all_goals
          obtain ⟨A9, c9, r9, e9, hS9⟩ := SState.attr HS.out (HS5.out.keep ((Below.refl _ _).alloc (Nat.le_refl _) _)) (HB5.out.below ((Below.refl _ _).alloc (Nat.le_refl _) _)) (by simp; exact Nat.le_succ_of_le HWZ.out) hown9 hb9 hg9 hn9 (by omega) HAS.out
          injection e9 with e91 _ e92
          subst e91 e92
          have HS9 := hide hS9
          clear hS9 hown9 hb9 hg9 hn9 x0 x1 f0 f1 xl y0 y1 g0 g1 yl z0 z1 i0 i1 zl HSZ5 HSD HS HS5 HB5
          go_wp2
          exact ⟨⟨K + 1, by omega, by go_num, ⟨D9, m9, _, _, HS9.out⟩⟩, by simp [intOf]; omega⟩
      · obtain rfl : N = K := by omega
        obtain ⟨x0, x1, f0, f1, xl⟩ := HS.out.box
        obtain ⟨r0, r1, g0, g1, rl⟩ := HS.out.res
        go_wp2
        obtain ⟨t1, t2, t3⟩ := HS.out.fin (.slice A N c) (.slice D m k)
        exact bodyPost_ret (v := .agg #[.slice A N c, .slice D m k]) (by simp [results, Try.results109, go_sem, r0, r1]) rfl
          ⟨A, N, c, D, m, k, rr, d, rfl, t1, by omega, hm2, hm3, t2, t3⟩


set_option maxHeartbeats 4000000 in
theorem l5Draw_any (b : Nat) (w : World) (h : Cur w b) :
    Calls Try.prog 89 #[.pointer (some ⟨b, 0, none⟩)] w fun e w' => ∃ x0 x1, e = .returned (.agg #[x0, x1]) ∧ (∃ d, SchemaO w.heap.size w'.heap.size w' x0 x1 d ∧ d.attrs.length ≤ 6) ∧ Cur w' b ∧ Only (· = b) w w' := by
  have hbw := h.lt
  have hR := BoxW.new w (.slice none 0 0) (.slice none 0 0) 43
  have hal : Below w.heap.size w (w.alloc (.cells #[.slice none 0 0, .slice none 0 0] 43)) := (Below.refl _ _).alloc (Nat.le_refl _) _
  have HC := hide (h.keep hal)
  clear h
  obtain ⟨W0, hW0⟩ : ∃ W, W = w.alloc (.cells #[.slice none 0 0, .slice none 0 0] 43) := ⟨_, rfl⟩
  have HZ0 := hide (show W0.heap.size = w.heap.size + 1 by rw [hW0]; simp)
  rw [← hW0] at hR hal HC
  have HW := hide hW0
  clear hW0
  go_enter Try.func89, Try.ntmps89
  go_wp2_with (fail)
  rw [← HW.out]
  refine (l5Right_any b _ HC.out).mono ?_
  rintro e w3 ⟨A, n, c, D, m, k, rr, d, rfl, hsch, hn, hm2, hm3, hC3, ho3⟩
  have hz3 : w.heap.size + 1 ≤ w3.heap.size := by rw [← HZ0.out]; exact ho3.size
  have hz0 := HZ0.out
  obtain ⟨W1, hW1⟩ : ∃ W, W = w3.alloc (.cells #[.slice A n c, .slice D m k] 43) := ⟨_, rfl⟩
  have hal1 : Below w3.heap.size w3 W1 := by rw [hW1]; exact (Below.refl _ _).alloc (Nat.le_refl _) _
  have hX := BoxW.new w3 (.slice A n c) (.slice D m k) 43
  rw [← hW1] at hX
  have HS := hide (show SState w b w.heap.size w3.heap.size W1 A n c D m k rr d from
    ⟨by omega, (hR.only ho3 (by omega)).keep hal1, hX, (hsch.mono (by omega)).below hal1,
      fun j hj => by have := hsch.bag.lt hj; omega, fun j hj => by have := hsch.cls.lt j hj; omega, hC3.keep hal1, ((Only.of_below (S := (· = b)) hal).trans ho3).trans (Only.of_below hal1)⟩)
  have HW1 := hide hW1
  have hrx : w.heap.size < w3.heap.size := by omega
  clear hsch hC3 ho3 hal1 hX hW1 hR hal HC HZ0 HW hz3 hz0
  go_wp2_with (fail)
  rw [← HW1.out]
  clear HW1
  refine (l1Below_any b 12 _ HS.out.cur (by omega)).mono ?_
  rintro e w4 ⟨x, rfl, hx0, -, -, hC3, ho3⟩
  replace HS := hide (HS.out.draw hC3 ho3)
  clear hC3 ho3
  rcases (show x = 0 ∨ x = 1 ∨ x = 2 ∨ x = 3 ∨ 4 ≤ x by omega) with rfl | rfl | rfl | rfl | hx5
  · obtain ⟨x0, x1, f0, f1, xl⟩ := HS.out.box
    have HSD := hide (HS.out.keep ((Below.refl _ _).drew))
    go_wp2
    go_region_law (first
      | (go_simp; go_at_call 110; refine (l5DrawAttr_any b _ HSD.out.cur).mono ?_; rintro e w5 ⟨a, D1, n1, m1, D2, n2, m2, rfl, hbag5, htiny, hC3, ho3⟩; have HS5 := hide (HSD.out.draw hC3 ho3); have HB5 := hide hbag5; obtain ⟨y0, y1, g0, g1, yl⟩ := HS5.out.box; have HSZ5 := hide HS5.out.only.size; have HWZ := hide (show w4.heap.size ≤ w5.heap.size from ho3.size); have HAS := hide (show attrSmall a from htiny.small); clear hC3 ho3 hbag5)
      | (refine step_append_src _ rfl (.tmp 11) (.tmp 14) 41 rfl w.heap.size 73 (.agg #[.string ⟨#[]⟩, .slice none 0 0, .slice none 0 0]) 3 64 Try.underlying41 infoA rfl (by decide) (.slice A n c) n (rr 0).xs [.string a.name, .slice D1 n1 m1, .slice D2 n2 m2] rfl ((HS5.out.outer).alloc _) _ 1 1 rfl rfl (new_cells rfl _ _) (by simp [Value.oneCell']) (by unfold maxLen; omega) (by omega) (by have := HSZ5.out; simp; omega) ?_; intro v' w9 hown9 hb9 hg9 hn9; obtain ⟨D9, m9, rfl⟩ := own_shape hown9; obtain ⟨z0, z1, i0, i1, zl⟩ := ((HS5.out.keep ((Below.refl _ _).alloc (Nat.le_refl _) _)).turn1 hb9 hg9).2.1))
    all_goals
      obtain ⟨A9, c9, r9, e9, hS9⟩ := SState.attr HS.out (HS5.out.keep ((Below.refl _ _).alloc (Nat.le_refl _) _)) (HB5.out.below ((Below.refl _ _).alloc (Nat.le_refl _) _)) (by simp; exact Nat.le_succ_of_le HWZ.out) hown9 hb9 hg9 hn9 (by omega) HAS.out
      injection e9 with e91 _ e92
      subst e91 e92
      clear HS
      have HS := hide hS9
      clear hS9 hown9 hb9 hg9 hn9 x0 x1 f0 f1 xl y0 y1 g0 g1 yl z0 z1 i0 i1 zl HSZ5 HSD HS5 HB5
      obtain ⟨x0, x1, f0, f1, xl⟩ := HS.out.box
      obtain ⟨r0, r1, h0, h1, rl⟩ := HS.out.res
      go_wp2
      obtain ⟨t1, t2, t3⟩ := (HS.out).fin (.slice D9 (n + 1) m9) (.slice D m k)
      exact bodyPost_ret (v := .agg #[.slice D9 (n + 1) m9, .slice D m k]) (by simp [results, Try.results89, go_sem, r0, r1]) rfl
          ⟨_, _, rfl, ⟨_, t1.o, Nat.le_trans (Nat.le_of_eq t1.to.len.symm) (by omega)⟩, t2, t3⟩
  · obtain ⟨x0, x1, f0, f1, xl⟩ := HS.out.box
    have hal := hide (fun o1 => (((Below.refl w4.heap.size w4).alloc (Nat.le_refl _) o1).drew : Below w4.heap.size w4 (w4.alloc o1).drew))
    go_wp2
    go_region_law (first
      | (go_simp; go_at_call 44; refine (l1Pick_any b (some ⟨w4.heap.size, 0, none⟩) 3 3 badClass _ (HS.out.cur.keep (hal.out _)) (strs_lit w4 badClass _) (fun _ => lit_apart HS.out.cur) (by omega) (by omega)).mono ?_; rintro e w5 ⟨q, hq, rfl, hC3, ho3⟩; obtain ⟨u, hu, hus⟩ : ∃ u, badClass[q]?.getD ByteArray.empty = u ∧ u.size ≤ 16 := ⟨_, rfl, badClass_size q hq⟩; rw [hu]; have HUS := hide hus; have HS5 := hide ((HS.out.keep (hal.out _)).draw hC3 ho3); obtain ⟨y0, y1, g0, g1, yl⟩ := HS5.out.box; have HSZ5 := hide HS5.out.only.size; clear hC3 ho3 hu hq hus)
      | (refine step_append_src _ rfl (.tmp 20) (.tmp 24) 26 rfl w.heap.size 9 (.string ⟨#[]⟩) 1 16 Try.underlying26 infoS rfl (by decide) (.slice D m k) m (d.classes.map Value.string) [.string u] rfl (HS5.out.sch.cls.alloc _) _ 1 1 rfl rfl (new_cells rfl _ _) (by simp [Value.oneCell']) (by unfold maxLen; omega) (by omega) (by have := HSZ5.out; simp; omega) ?_; intro v' w9 hown9 hb9 hg9 hn9; obtain ⟨D9, m9, rfl⟩ := own_shape hown9; obtain ⟨z0, z1, i0, i1, zl⟩ := ((HS5.out.keep ((Below.refl _ _).alloc (Nat.le_refl _) _)).turn2 hb9 hg9).2.1))
    all_goals
      obtain ⟨A9, c9, e9, hS9⟩ := (HS5.out.keep ((Below.refl _ _).alloc (Nat.le_refl _) _)).word hown9 hb9 hg9 hn9 (by omega) (by have := HUS.out; omega)
      injection e9 with e91 _ e92
      subst e91 e92
      clear HS
      have HS := hide hS9
      clear hS9 hown9 hb9 hg9 hn9 x0 x1 f0 f1 xl y0 y1 g0 g1 yl z0 z1 i0 i1 zl HSZ5 HS5 hal
      obtain ⟨x0, x1, f0, f1, xl⟩ := HS.out.box
      obtain ⟨r0, r1, h0, h1, rl⟩ := HS.out.res
      go_wp2
      obtain ⟨t1, t2, t3⟩ := (HS.out).fin (.slice A n c) (.slice D9 (m + 1) m9)
      exact bodyPost_ret (v := .agg #[.slice A n c, .slice D9 (m + 1) m9]) (by simp [results, Try.results89, go_sem, r0, r1]) rfl
          ⟨_, _, rfl, ⟨_, t1.o, Nat.le_trans (Nat.le_of_eq t1.to.len.symm) (by omega)⟩, t2, t3⟩
  · 
    obtain ⟨x0, x1, f0, f1, xl⟩ := HS.out.box
    obtain ⟨r0, r1, h0, h1, rl⟩ := HS.out.res
    obtain ⟨rr', hS⟩ := HS.out.noattr
    go_wp2
    obtain ⟨t1, t2, t3⟩ := (hS).fin (.slice (some ⟨w4.heap.size, 0, none⟩) 0 0) (.slice D m k)
    simp (disch := first | omega | (simp <;> omega)) only [World.setCell_alloc_past] at t1 t2 t3
    exact bodyPost_ret (v := .agg #[.slice (some ⟨w4.heap.size, 0, none⟩) 0 0, .slice D m k]) (by simp [results, Try.results89, go_sem, r0, r1, rl, xl, hrx]) rfl
          ⟨_, _, rfl, ⟨_, t1.o, Nat.le_trans (Nat.le_of_eq t1.to.len.symm) (by omega)⟩, t2, t3⟩
  · 
    obtain ⟨x0, x1, f0, f1, xl⟩ := HS.out.box
    obtain ⟨r0, r1, h0, h1, rl⟩ := HS.out.res
    have hm1 : (1 : Int) ≤ k := by have := own_cap HS.out.sch.cls; omega
    go_wp2
    obtain ⟨t1, t2, t3⟩ := (HS.out.first (by omega)).fin (.slice A n c) (.slice D 1 k)
    exact bodyPost_ret (v := .agg #[.slice A n c, .slice D 1 k]) (by simp [results, Try.results89, go_sem, r0, r1]) rfl
          ⟨_, _, rfl, ⟨_, t1.o, Nat.le_trans (Nat.le_of_eq t1.to.len.symm) (by omega)⟩, t2, t3⟩
  · have h0' : (x == 0) = false := beq_eq_false_iff_ne.2 (by omega)
    have h1' : (x == 1) = false := beq_eq_false_iff_ne.2 (by omega)
    have h2' : (x == 2) = false := beq_eq_false_iff_ne.2 (by omega)
    have h3' : (x == 3) = false := beq_eq_false_iff_ne.2 (by omega)
    obtain ⟨x0, x1, f0, f1, xl⟩ := HS.out.box
    obtain ⟨r0, r1, h0, h1, rl⟩ := HS.out.res
    go_wp2
    obtain ⟨t1, t2, t3⟩ := (HS.out).fin (.slice A n c) (.slice D m k)
    exact bodyPost_ret (v := .agg #[.slice A n c, .slice D m k]) (by simp [results, Try.results89, go_sem, r0, r1]) rfl
          ⟨_, _, rfl, ⟨_, t1.o, Nat.le_trans (Nat.le_of_eq t1.to.len.symm) (by omega)⟩, t2, t3⟩
end Go.Proofs.Ytjdncobdecdhmaa
namespace Go.Proofs.Ytjdncobdecdhmaa
open Go.RowKit
set_option maxRecDepth 100000
set_option linter.unusedSimpArgs false

/-- Two results' boxes. -/
def TwoS (w W : World) : Prop := BoxW W w.heap.size (.slice none 0 0) (.slice none 0 0) ∧ BoxW W (w.heap.size + 1) (.slice none 0 0) (.slice none 0 0) ∧ Below w.heap.size w W
theorem two_boxes (w : World) (t1 t2 : TypeId) : TwoS w ((w.alloc (.cells #[.slice none 0 0, .slice none 0 0] t1)).alloc (.cells #[.slice none 0 0, .slice none 0 0] t2)) := by
  have a2 := (Below.refl (w.alloc (.cells #[.slice none 0 0, .slice none 0 0] t1)).heap.size (w.alloc (.cells #[.slice none 0 0, .slice none 0 0] t1))).alloc (Nat.le_refl _) (.cells #[.slice none 0 0, .slice none 0 0] t2)
  have b2 := BoxW.new (w.alloc (.cells #[.slice none 0 0, .slice none 0 0] t1)) (.slice none 0 0) (.slice none 0 0) t2
  rw [show (w.alloc (.cells #[.slice none 0 0, .slice none 0 0] t1)).heap.size = w.heap.size + 1 by simp] at b2
  exact ⟨(BoxW.new w _ _ _).keep a2, b2, bthen ((Below.refl _ _).alloc (Nat.le_refl _) _) a2⟩

set_option maxHeartbeats 8000000 in
theorem drawStatsOk_any (A : Option Addr) (n c : Nat) (l : List UInt8) (w : World) (hl : Bytes w A n l) (hn : n ≤ 1048576) :
    Calls Try.prog 69 #[.slice A n c] w fun e w' => ∃ x0 x1 y0 y1, e = .returned (.tuple #[.agg #[x0, x1], .agg #[y0, y1]]) ∧ (∃ d, SchemaO w.heap.size w'.heap.size w' x0 x1 d) ∧ (∃ E, StatsO w.heap.size w'.heap.size w' y0 y1 E) ∧ Below w.heap.size w w' := by
  have hP := two_boxes w 43 39
  obtain ⟨W1, hW1⟩ : ∃ W, W = (w.alloc (.cells #[.slice none 0 0, .slice none 0 0] 43)).alloc (.cells #[.slice none 0 0, .slice none 0 0] 39) := ⟨_, rfl⟩
  rw [← hW1] at hP
  have HP := hide hP
  have HL := hide (hl.keep hP.2.2)
  have HW := hide hW1
  clear hl hP hW1
  go_enter Try.func69, Try.ntmps69
  go_wp2_with (fail)
  rw [← HW.out]
  refine (l1New_any A n c l _ HL.out hn).mono ?_
  rintro e w1 ⟨b, rfl, hb, hC, hB⟩
  have hz1 := hB.size
  have hzp := HP.out.2.1.lt
  replace HP := hide (show TwoS w w1 from ⟨HP.out.1.keep hB, HP.out.2.1.keep hB, bthen HP.out.2.2 hB⟩)
  clear hB HL HW
  go_wp2_with (fail)
  refine (l5Draw_any b _ hC).mono ?_
  rintro e w2 ⟨x0, x1, rfl, ⟨d, hO, h6⟩, hC2, ho⟩
  have hbl := hC.lt
  have hz2 := ho.size
  replace HP := hide (show TwoS w w2 from ⟨HP.out.1.only ho (by omega), HP.out.2.1.only ho (by omega), Only.below HP.out.2.2 HP.out.2.2.size ho (fun j hj => by omega)⟩)
  have HO := hide hO
  obtain ⟨A1, n1, c1, D1, m1, k1, rr, rfl, rfl, -⟩ := hO
  have hal : Below w2.heap.size w2 (w2.alloc (.cells #[.slice A1 n1 c1, .slice D1 m1 k1] 43)) := (Below.refl _ _).alloc (Nat.le_refl _) _
  have hX := BoxW.new w2 (.slice A1 n1 c1) (.slice D1 m1 k1) 43
  replace HO := hide (HO.out.below hal)
  have HC2 := hide (hC2.keep hal)
  replace HP := hide (show TwoS w (w2.alloc (.cells #[.slice A1 n1 c1, .slice D1 m1 k1] 43)) from ⟨HP.out.1.keep hal, HP.out.2.1.keep hal, bthen HP.out.2.2 hal⟩)
  obtain ⟨W3, hW3⟩ : ∃ W, W = w2.alloc (.cells #[.slice A1 n1 c1, .slice D1 m1 k1] 43) := ⟨_, rfl⟩
  have hz3 : W3.heap.size = w2.heap.size + 1 := by rw [hW3]; simp
  rw [← hW3] at HP HO HC2 hX hal
  have HW := hide hW3
  clear ho hC hC2 hW3
  obtain ⟨x0, x1, f0, f1, xl⟩ := id hX
  rw [HW.out] at x0 x1 f0 f1 xl
  go_wp2
  rw [← HW.out] at x0 x1 f0 f1 xl ⊢
  have HOD := hide (show SchemaO w1.heap.size W3.drew.heap.size W3.drew (.slice A1 n1 c1) (.slice D1 m1 k1) d from schema_up (HO.out.below (Below.refl _ W3).drew) (Nat.le_refl _) (by simp; omega))
  have HCD := hide (HC2.out.keep (Below.refl _ W3).drew)
  have HPD := hide (show TwoS w W3.drew from ⟨HP.out.1.keep (Below.refl _ W3).drew, HP.out.2.1.keep (Below.refl _ W3).drew, bthen HP.out.2.2 (Below.refl _ W3).drew⟩)
  obtain ⟨r0, r1, h0, h1, rl⟩ := HPD.out.1
  obtain ⟨s0, s1, i0, i1, sl⟩ := HPD.out.2.1
  have HXD := hide (hX.keep (Below.refl _ W3).drew)
  go_region_law (first
    | (go_simp; go_at_call 90; refine (l8Draw_any b _ _ d w1.heap.size _ HCD.out HOD.out hbl).mono ?_; rintro e w5 ⟨y0, y1, rfl, ⟨E, hE⟩, hC5, ho5⟩; have HE := hide hE; obtain ⟨G, n9, c9, G2, n8, c8, rr8, rfl, rfl, -⟩ := hE; have HP5 := hide (show TwoS w w5 from ⟨HPD.out.1.only ho5 (by omega), HPD.out.2.1.only ho5 (by omega), Only.below HPD.out.2.2 HPD.out.2.2.size ho5 (fun j hj => by omega)⟩); have HO5 := hide (HOD.out.only ho5 (fun k hk => .inl (by omega))); obtain ⟨a0, a1, b0, b1, al⟩ := HP5.out.1; obtain ⟨t0, t1, j0, j1, tl⟩ := HP5.out.2.1; have ho5s := hide ho5.size; obtain ⟨v0, v1, g0, g1, vl⟩ := HXD.out.only ho5 (by omega); clear hC5 ho5))
  all_goals
    go_wp2
    have hs := (((((Only.refl (fun j => w.heap.size = j ∨ w.heap.size + 1 = j) w5).setCell (p := ⟨w.heap.size, 0, none⟩) (.inl rfl) (.slice A1 n1 c1)).setCell (p := ⟨w.heap.size, 1, none⟩) (.inl rfl) (.slice D1 m1 k1)).setCell (p := ⟨w.heap.size + 1, 0, none⟩) (.inr rfl) (.slice G n9 c9)).setCell (p := ⟨w.heap.size + 1, 1, none⟩) (.inr rfl) (.slice G2 n8 c8))
    have hlow := (((HP5.out.2.2.setCell (p := ⟨w.heap.size, 0, none⟩) (Nat.le_refl _) (.slice A1 n1 c1)).setCell (p := ⟨w.heap.size, 1, none⟩) (Nat.le_refl _) (.slice D1 m1 k1)).setCell (p := ⟨w.heap.size + 1, 0, none⟩) (Nat.le_succ _) (.slice G n9 c9)).setCell (p := ⟨w.heap.size + 1, 1, none⟩) (Nat.le_succ _) (.slice G2 n8 c8)
    exact bodyPost_ret (v := .tuple #[.agg #[.slice A1 n1 c1, .slice D1 m1 k1], .agg #[.slice G n9 c9, .slice G2 n8 c8]]) (by simp [results, Try.results69, go_sem, a0, a1, t0, t1]) rfl
      ⟨_, _, _, _, rfl, ⟨d, schema_up (HO5.out.only hs (fun k hk => .inl (by omega))) (by omega) (by have := ho5s.out; simp at this ⊢; omega)⟩, ⟨E, statsO_up (HE.out.only hs (fun k hk => .inl (by simp; omega))) (by simp; omega) (by simp)⟩, hlow⟩

set_option maxHeartbeats 4000000 in
theorem drawPromise_any (A : Option Addr) (n c : Nat) (l : List UInt8) (w : World) (hl : Bytes w A n l) (hn : n ≤ 1048576) :
    Calls Try.prog 29 #[.slice A n c] w fun e w' => ∃ x0 x1 y0 y1, e = .returned (.tuple #[.agg #[x0, x1], .agg #[y0, y1]]) ∧ (∃ d, SchemaM w' x0 x1 d) ∧ (∃ E, StatsM w' y0 y1 E) ∧ Below w.heap.size w w' := by
  have hP := two_boxes w 43 39
  obtain ⟨W1, hW1⟩ : ∃ W, W = (w.alloc (.cells #[.slice none 0 0, .slice none 0 0] 43)).alloc (.cells #[.slice none 0 0, .slice none 0 0] 39) := ⟨_, rfl⟩
  rw [← hW1] at hP
  have HP := hide hP
  have HL := hide (hl.keep hP.2.2)
  have HW := hide hW1
  clear hl hP hW1
  go_enter Try.func29, Try.ntmps29
  go_wp2_with (fail)
  rw [← HW.out]
  refine (drawStatsOk_any A n c l _ HL.out hn).mono ?_
  rintro e w5 ⟨x0, x1, y0, y1, rfl, ⟨d, hO⟩, ⟨E, hE⟩, hb⟩
  have HO := hide hO
  have HE := hide hE
  obtain ⟨A1, n1, c1, D1, m1, k1, rr, rfl, rfl, -⟩ := hO
  obtain ⟨G, n9, c9, G2, n8, c8, rr8, rfl, rfl, -⟩ := hE
  have hzp := HP.out.2.1.lt
  replace HP := hide (show TwoS w w5 from ⟨HP.out.1.keep hb, HP.out.2.1.keep hb, bthen HP.out.2.2 hb⟩)
  obtain ⟨a0, a1, b0, b1, al⟩ := HP.out.1
  obtain ⟨t0, t1, j0, j1, tl⟩ := HP.out.2.1
  go_wp2
  have hs := (((((Only.refl (fun j => w.heap.size = j ∨ w.heap.size + 1 = j) w5).setCell (p := ⟨w.heap.size, 0, none⟩) (.inl rfl) (.slice A1 n1 c1)).setCell (p := ⟨w.heap.size, 1, none⟩) (.inl rfl) (.slice D1 m1 k1)).setCell (p := ⟨w.heap.size + 1, 0, none⟩) (.inr rfl) (.slice G n9 c9)).setCell (p := ⟨w.heap.size + 1, 1, none⟩) (.inr rfl) (.slice G2 n8 c8))
  have hlow := (((HP.out.2.2.setCell (p := ⟨w.heap.size, 0, none⟩) (Nat.le_refl _) (.slice A1 n1 c1)).setCell (p := ⟨w.heap.size, 1, none⟩) (Nat.le_refl _) (.slice D1 m1 k1)).setCell (p := ⟨w.heap.size + 1, 0, none⟩) (Nat.le_succ _) (.slice G n9 c9)).setCell (p := ⟨w.heap.size + 1, 1, none⟩) (Nat.le_succ _) (.slice G2 n8 c8)
  exact bodyPost_ret (v := .tuple #[.agg #[.slice A1 n1 c1, .slice D1 m1 k1], .agg #[.slice G n9 c9, .slice G2 n8 c8]]) (by simp [results, Try.results29, go_sem, a0, a1, t0, t1]) rfl
    ⟨_, _, _, _, rfl, ⟨d, (HO.out.only hs (fun k hk => .inl (by omega))).m⟩, ⟨E, (HE.out.only hs (fun k hk => .inl (by omega))).m⟩, hlow⟩
end Go.Proofs.Ytjdncobdecdhmaa
namespace Go.Proofs.Ytjdncobdecdhmaa
open Go.RowKit
set_option maxRecDepth 100000

/-- What a leaf of these statistics promises. -/
def promI (d : SchemaD) (t : StatsD) : Int := if statsB d t = true then t.totals.sum - t.totals[topTo t.totals (t.totals.length - 1)]?.getD 0 else 0
theorem promI_no {d : SchemaD} {t : StatsD} (h : statsB d t = false) : promI d t = 0 := by simp [promI, h]
theorem promI_yes {d : SchemaD} {t : StatsD} (h : statsB d t = true) : promI d t = t.totals.sum - t.totals[topTo t.totals (t.totals.length - 1)]?.getD 0 := by simp [promI, h]
def pureB (d : SchemaD) (t : StatsD) : Bool := statsB d t && decide (promI d t = 0)
theorem pureB_no {d : SchemaD} {t : StatsD} (h : statsB d t = false) : pureB d t = false := by rw [pureB, h]; rfl
theorem pureB_yes {d : SchemaD} {t : StatsD} (h : statsB d t = true) : pureB d t = decide (promI d t = 0) := by rw [pureB, h]; rfl
theorem statsB_len3 {d : SchemaD} {t : StatsD} (h : statsB d t = true) : 2 ≤ t.totals.length ∧ t.totals.length ≤ 3 := by
  unfold statsB at h
  simp only [Bool.and_eq_true, decide_eq_true_eq] at h
  have h1 := schemaB_classes h.1
  have h2 := h.2.1
  omega
theorem statsB_pos {d : SchemaD} {t : StatsD} (h : statsB d t = true) : 0 < t.totals.length := by have := statsB_len3 h; omega
theorem max_wt {l : List Int} (h : l.all wt = true) {k : Nat} : 0 ≤ l[k]?.getD 0 ∧ l[k]?.getD 0 ≤ 999 := by
  rcases Nat.lt_or_ge k l.length with hk | hk
  · rw [List.all_eq_true] at h
    rw [List.getElem?_eq_getElem hk, Option.getD_some]
    exact inB_iff.1 (h _ (List.getElem_mem _))
  · rw [List.getElem?_eq_none hk]; simp
theorem thin_ok {d : SchemaD} {t : StatsD} (h : statsB d t = true) : statsB d ⟨t.totals, []⟩ = true := by
  unfold statsB at h ⊢
  simp only [Bool.and_eq_true, decide_eq_true_eq] at h ⊢
  exact ⟨h.1, h.2.1, h.2.2.1, h.2.2.2.1, by simp⟩
theorem promI_thin {d : SchemaD} {t : StatsD} (h : statsB d t = true) : promI d ⟨t.totals, []⟩ = promI d t := by rw [promI_yes h, promI_yes (thin_ok h)]

set_option maxHeartbeats 8000000 in
theorem implPromise_any (x0 x1 y0 y1 : Value) (d : SchemaD) (t : StatsD) (w : World) (h : SchemaM w x0 x1 d) (h' : StatsM w y0 y1 t) :
    Calls Try.prog 31 #[.agg #[x0, x1], .agg #[y0, y1]] w fun r w' => r = .returned (.int .i64 (promI d t)) ∧ Below w.heap.size w w' := by
  have hSM := hide h
  have hST := hide h'
  obtain ⟨A, n, c, D, m, k, rfl, rfl, hl, hn, hr, hs, hm, hmk⟩ := h
  obtain ⟨G, b, f, E, p, q, rfl, rfl, hg, hb, hp, hpn⟩ := h'
  have hbox : Below w.heap.size w ((w.alloc (.cells #[.slice A n c, .slice D m k] 43)).alloc (.cells #[.slice G b f, .slice E p q] 39)) := ((Below.refl _ _).alloc (Nat.le_refl _) _).alloc (by simp) _
  obtain ⟨W, hW⟩ : ∃ W, W = ((w.alloc (.cells #[.slice A n c, .slice D m k] 43)).alloc (.cells #[.slice G b f, .slice E p q] 39)) := ⟨_, rfl⟩
  have hX := (Box2.new w (.slice A n c) (.slice D m k) 43).keep (Below.alloc (Below.refl _ _) (Nat.le_refl _) (.cells #[.slice G b f, .slice E p q] 39))
  have hY := Box2.new (w.alloc (.cells #[.slice A n c, .slice D m k] 43)) (.slice G b f) (.slice E p q) 39
  have hz : (w.alloc (.cells #[.slice A n c, .slice D m k] 43)).heap.size = w.heap.size + 1 := by simp
  rw [hz] at hY
  clear hz
  rw [← hW] at hX hY
  have HL := hide (hl.keep hbox)
  have HG := hide (hg.keep hbox)
  have HE := hide (hp.keep hbox)
  have HSM := hide (hSM.out.keep hbox)
  have HST := hide (hST.out.keep hbox)
  rw [← hW] at HL HG HE hbox HSM HST
  have hl1 := hide hl.1
  have hr1 := hide hr.1
  have hg1 := hide hg.1
  have hp1 := hide hp.1
  have HW := hide hW
  clear hl hr hs hW hg hSM hp hST
  obtain ⟨k0, k1, k2⟩ := id hX
  obtain ⟨j0, j1, j2⟩ := id hY
  cases h1 : statsB d t
  · have hfin := hide (promI_no h1)
    have H1 := hide h1
    clear h1
    go_enter Try.func31, Try.ntmps31
    go_wp2_with (fail)
    rw [← HW.out]
    refine (implStatsOk_any _ _ _ _ d t _ HSM.out HST.out).mono ?_
    rintro r w1 ⟨rfl, hb1⟩
    rw [H1.out]
    have hB := bthen hbox hb1
    clear hb1 k0 k1 k2 j0 j1 j2
    go_wp2
    go_ret
    exact ⟨ret_int hfin.out.symm, hB⟩
  · have hfin := hide (promI_yes h1)
    have HWT := hide (statsB_all_wt h1)
    have H1 := hide h1
    clear h1
    go_enter Try.func31, Try.ntmps31
    go_wp2_with (fail)
    rw [← HW.out]
    refine (implStatsOk_any _ _ _ _ d t _ HSM.out HST.out).mono ?_
    rintro r w1 ⟨rfl, hb1⟩
    rw [H1.out]
    have hB := bthen hbox hb1
    have HG1 := hide (HG.out.keep hb1)
    clear k0 k1 k2 j0 j1 j2
    obtain ⟨j0, j1, j2⟩ := hY.keep hb1
    clear hb1 hX hY hbox HL HG HE
    have hb0 := hide (statsB_pos H1.out)
    have hgl : 0 < b := by have := hg1.out; have := hb0.out; omega
    obtain ⟨mx, hmx⟩ : ∃ mx, mx = t.totals[topTo t.totals (b - 1)]?.getD 0 := ⟨_, rfl⟩
    have hbs := sum_bd HWT.out
    have hmb := max_wt (k := topTo t.totals (b - 1)) HWT.out
    have hfin2 := hide (show promI d t = t.totals.sum - mx by rw [hfin.out, hmx, hg1.out])
    rw [← hmx] at hmb
    have HMX := hide hmx
    clear hmx
    have hl3 : t.totals.length ≤ 3 := by have := statsB_len3 H1.out; omega
    have HT := hide (fun (W : World) (hg : Ints W G b t.totals) => total_any G b f t.totals W hg (by omega) HWT.out)
    generalize t.totals.sum = S at *
    go_wp2
    go_region_law (first
      | (go_simp; go_at_call 71; refine (HT.out _ (HG1.out.keep ((Below.refl _ _).drew))).mono ?_; rintro e w' ⟨rfl, rfl⟩)
      | (go_simp; go_at_call 72; refine (maxInt_any G b f t.totals _ (HG1.out.keep ((Below.refl _ _).drew)) (by omega) hgl).mono ?_; rintro e w' ⟨rfl, rfl⟩; rw [← HMX.out]))
    all_goals
      go_wp2
      go_ret
      exact ⟨ret_int (by rw [hfin2.out]; exact IntWalk.i64_in _ (by omega)), hB.trans (Below.refl _ _).drew⟩

set_option maxHeartbeats 8000000 in
theorem implPure_any (x0 x1 y0 y1 : Value) (d : SchemaD) (t : StatsD) (w : World) (h : SchemaM w x0 x1 d) (h' : StatsM w y0 y1 t) :
    Calls Try.prog 32 #[.agg #[x0, x1], .agg #[y0, y1]] w fun r w' => r = .returned (.bool (pureB d t)) ∧ Below w.heap.size w w' := by
  have hSM := hide h
  have hST := hide h'
  obtain ⟨A, n, c, D, m, k, rfl, rfl, hl, hn, hr, hs, hm, hmk⟩ := h
  obtain ⟨G, b, f, E, p, q, rfl, rfl, hg, hb, hp, hpn⟩ := h'
  have hbox : Below w.heap.size w ((w.alloc (.cells #[.slice A n c, .slice D m k] 43)).alloc (.cells #[.slice G b f, .slice E p q] 39)) := ((Below.refl _ _).alloc (Nat.le_refl _) _).alloc (by simp) _
  obtain ⟨W, hW⟩ : ∃ W, W = ((w.alloc (.cells #[.slice A n c, .slice D m k] 43)).alloc (.cells #[.slice G b f, .slice E p q] 39)) := ⟨_, rfl⟩
  have hX := (Box2.new w (.slice A n c) (.slice D m k) 43).keep (Below.alloc (Below.refl _ _) (Nat.le_refl _) (.cells #[.slice G b f, .slice E p q] 39))
  have hY := Box2.new (w.alloc (.cells #[.slice A n c, .slice D m k] 43)) (.slice G b f) (.slice E p q) 39
  have hz : (w.alloc (.cells #[.slice A n c, .slice D m k] 43)).heap.size = w.heap.size + 1 := by simp
  rw [hz] at hY
  clear hz
  rw [← hW] at hX hY
  have HL := hide (hl.keep hbox)
  have HG := hide (hg.keep hbox)
  have HE := hide (hp.keep hbox)
  have HSM := hide (hSM.out.keep hbox)
  have HST := hide (hST.out.keep hbox)
  rw [← hW] at HL HG HE hbox HSM HST
  have hl1 := hide hl.1
  have hr1 := hide hr.1
  have hg1 := hide hg.1
  have hp1 := hide hp.1
  have HW := hide hW
  clear hl hr hs hW hg hSM hp hST
  obtain ⟨k0, k1, k2⟩ := id hX
  obtain ⟨j0, j1, j2⟩ := id hY
  cases h1 : statsB d t
  · have hfin := hide (pureB_no h1)
    have H1 := hide h1
    clear h1
    go_enter Try.func32, Try.ntmps32
    go_wp2_with (fail)
    rw [← HW.out]
    refine (implStatsOk_any _ _ _ _ d t _ HSM.out HST.out).mono ?_
    rintro r w1 ⟨rfl, hb1⟩
    rw [H1.out]
    have hB := bthen hbox hb1
    clear hb1 k0 k1 k2 j0 j1 j2
    go_wp2
    go_ret
    exact ⟨ret_bool hfin.out.symm, hB⟩
  · have hfin := hide (pureB_yes h1)
    have H1 := hide h1
    clear h1
    go_enter Try.func32, Try.ntmps32
    go_wp2_with (fail)
    rw [← HW.out]
    refine (implStatsOk_any _ _ _ _ d t _ HSM.out HST.out).mono ?_
    rintro r w1 ⟨rfl, hb1⟩
    rw [H1.out]
    have hB := bthen hbox hb1
    replace HSM := hide (HSM.out.keep hb1)
    replace HST := hide (HST.out.keep hb1)
    clear k0 k1 k2 j0 j1 j2
    obtain ⟨k0, k1, k2⟩ := hX.keep hb1
    obtain ⟨j0, j1, j2⟩ := hY.keep hb1
    clear hb1 hX hY hbox HL HG HE
    go_wp2_with (fail)
    refine (implPromise_any _ _ _ _ d t _ HSM.out HST.out).mono ?_
    rintro r w2 ⟨rfl, hb2⟩
    have hB2 := bthen hB hb2
    generalize promI d t = P at *
    rcases (show P = 0 ∨ P ≠ 0 by omega) with h | h
    · subst h
      go_wp2
      go_ret
      exact ⟨ret_bool (by rw [hfin.out]; rfl), hB2⟩
    · have hq : (P == 0) = false := beq_eq_false_iff_ne.2 h
      have hq2 : decide (P = 0) = false := decide_eq_false h
      go_wp2
      go_ret
      exact ⟨ret_bool (by rw [hfin.out, hq2]), hB2⟩
end Go.Proofs.Ytjdncobdecdhmaa
namespace Go.Proofs.Ytjdncobdecdhmaa
open Go.RowKit
set_option maxRecDepth 100000

theorem big_is (A : Option Addr) (n c : Nat) (w : World) :
    Calls Try.prog 9 #[.slice A n c] w fun e w' => e = .returned (.bool (decide (1048576 < (n : Int)))) ∧ w' = w := by
  go_enter Try.func9, Try.ntmps9
  go_wp2
  go_ret
  exact ⟨rfl, rfl⟩

/-- What the last region holds: two boxes of two, a cell. -/
def HeldP (w : World) (b1 b2 : Nat) (q : Addr) (x0 x1 y0 y1 v : Value) (W : World) : Prop :=
  W.cell? ⟨b1, 0, none⟩ = some x0 ∧ W.cell? ⟨b1, 1, none⟩ = some x1 ∧ W.cell? ⟨b2, 0, none⟩ = some y0 ∧ W.cell? ⟨b2, 1, none⟩ = some y1 ∧ W.cell? q = some v ∧ Below w.heap.size w W
theorem HeldP.keep {w W W1 : World} {b1 b2 : Nat} {q : Addr} {x0 x1 y0 y1 v : Value} (hl : b1 < w.heap.size ∧ b2 < w.heap.size ∧ q.block < w.heap.size) (hW : Below W.heap.size W W1) (h : HeldP w b1 b2 q x0 x1 y0 y1 v W) : HeldP w b1 b2 q x0 x1 y0 y1 v W1 := by
  obtain ⟨h0, h1, h2, h3, h4, h6⟩ := h
  obtain ⟨l1, l2, l3⟩ := hl
  have := h6.size
  exact ⟨(hW.cell (p := ⟨b1, 0, none⟩) (by show b1 < _; omega)).trans h0, (hW.cell (p := ⟨b1, 1, none⟩) (by show b1 < _; omega)).trans h1, (hW.cell (p := ⟨b2, 0, none⟩) (by show b2 < _; omega)).trans h2,
    (hW.cell (p := ⟨b2, 1, none⟩) (by show b2 < _; omega)).trans h3, (hW.cell (p := q) (by omega)).trans h4, bthen h6 hW⟩
theorem HeldP.below {w W : World} {b1 b2 : Nat} {q : Addr} {x0 x1 y0 y1 v : Value} (h : HeldP w b1 b2 q x0 x1 y0 y1 v W) : Below w.heap.size w W := h.2.2.2.2.2
theorem HeldP.drew {w W : World} {b1 b2 : Nat} {q : Addr} {x0 x1 y0 y1 v : Value} (hl : b1 < w.heap.size ∧ b2 < w.heap.size ∧ q.block < w.heap.size) (h : HeldP w b1 b2 q x0 x1 y0 y1 v W) : HeldP w b1 b2 q x0 x1 y0 y1 v W.drew := h.keep hl (Below.refl _ _).drew
theorem promI_thinD {d : SchemaD} {t : StatsD} (h : statsB d t = true) : promI d (thinD t) = promI d t := promI_thin h

set_option maxHeartbeats 4000000 in
theorem fnPromise_walk (w : World) (A : Option Addr) (n c : Nat) (l : List UInt8) (_ : n ≤ maxLen) (hl : Bytes w A n l) :
    Calls Try.prog 7 #[.slice A n c] w fun e w' => e = .returned (.bool true) ∧ Below w.heap.size w w' := by
  have HL := hide hl
  clear hl
  by_cases hbig : (1048576 : Int) < n
  · have hd : decide (1048576 < (n : Int)) = true := decide_eq_true hbig
    go_enter Try.func7, Try.ntmps7
    go_wp2_with (fail)
    refine (big_is A n c _).mono ?_
    rintro e w1 ⟨rfl, rfl⟩
    rw [hd]
    go_wp2
    go_ret
    exact ⟨rfl, Below.refl _ _⟩
  have hd : decide (1048576 < (n : Int)) = false := decide_eq_false hbig
  have hn2 : n ≤ 1048576 := by omega
  go_enter Try.func7, Try.ntmps7
  go_wp2_with (fail)
  refine (big_is A n c _).mono ?_
  rintro e w1 ⟨rfl, rfl⟩
  rw [hd]
  clear hd hbig
  go_wp2_with (fail)
  refine (drawPromise_any A n c l _ HL.out hn2).mono ?_
  rintro e w2 ⟨x0, x1, y0, y1, rfl, ⟨d, hM⟩, ⟨t, hT⟩, hB⟩
  have HM := hide hM
  have HT := hide hT
  obtain ⟨A1, n1, c1, D1, m1, k1, rfl, rfl, -⟩ := hM
  obtain ⟨G, gn, gc, G2, gm, gk, rfl, rfl, hG, hgn, -⟩ := hT
  have hGl := hide hG.1
  have a1 := (Below.refl w2.heap.size w2).alloc (Nat.le_refl _) (.cells #[.slice A1 n1 c1, .slice D1 m1 k1] 43)
  obtain ⟨W3, hW3⟩ : ∃ W, W = w2.alloc (.cells #[.slice A1 n1 c1, .slice D1 m1 k1] 43) := ⟨_, rfl⟩
  have z3 : W3.heap.size = w2.heap.size + 1 := by rw [hW3]; simp
  have b1 := BoxW.new w2 (.slice A1 n1 c1) (.slice D1 m1 k1) 43
  rw [← hW3] at a1 b1
  have a2 := (Below.refl W3.heap.size W3).alloc (Nat.le_refl _) (.cells #[.slice G gn gc, .slice G2 gm gk] 39)
  have b2 := BoxW.new W3 (.slice G gn gc) (.slice G2 gm gk) 39
  rw [z3] at b2
  replace b1 := b1.keep a2
  obtain ⟨W4, hW4⟩ : ∃ W, W = W3.alloc (.cells #[.slice G gn gc, .slice G2 gm gk] 39) := ⟨_, rfl⟩
  rw [← hW4] at a2 b1 b2
  have HW := hide (show W4 = (w2.alloc (.cells #[.slice A1 n1 c1, .slice D1 m1 k1] 43)).alloc (.cells #[.slice G gn gc, .slice G2 gm gk] 39) by rw [hW4, hW3])
  have h24 := bthen a1 a2
  replace hB := bthen hB h24
  replace HM := hide (HM.out.keep h24)
  replace HT := hide (HT.out.keep h24)
  have HG := hide (hG.keep h24)
  have HX := hide b1
  have HY := hide b2
  clear a1 a2 b1 b2 h24 hW3 hW4 z3 HL hG
  obtain ⟨x0, x1, f0, f1, xl⟩ := HX.out
  obtain ⟨y0, y1, g0, g1, yl⟩ := HY.out
  rw [HW.out] at x0 x1 f0 f1 xl y0 y1 g0 g1 yl
  go_wp2_with (fail)
  rw [← HW.out]
  refine (specStatsOk_any _ _ _ _ d t _ HM.out HT.out).mono ?_
  rintro e w5 ⟨rfl, hb⟩
  clear x0 x1 f0 f1 xl y0 y1 g0 g1 yl HW
  replace hB := bthen hB hb
  replace HM := hide (HM.out.keep hb)
  replace HT := hide (HT.out.keep hb)
  replace HG := hide (HG.out.keep hb)
  replace HX := hide (HX.out.keep hb)
  replace HY := hide (HY.out.keep hb)
  clear hb
  have HPR := hide (fun (W : World) (h1 : SchemaM W (.slice A1 n1 c1) (.slice D1 m1 k1) d) (h2 : StatsM W (.slice G gn gc) (.slice G2 gm gk) t) => implPromise_any _ _ _ _ d t W h1 h2)
  have HPU := hide (fun (W : World) (h1 : SchemaM W (.slice A1 n1 c1) (.slice D1 m1 k1) d) (h2 : StatsM W (.slice G gn gc) (.slice G2 gm gk) t) => implPure_any _ _ _ _ d t W h1 h2)
  cases hok : statsB d t
  · rw [promI_no hok] at HPR
    rw [pureB_no hok] at HPU
    clear hok
    obtain ⟨x0, x1, f0, f1, xl⟩ := HX.out
    obtain ⟨y0, y1, g0, g1, yl⟩ := HY.out
    go_wp2_with (fail)
    refine (HPR.out _ HM.out HT.out).mono ?_
    rintro e w6 ⟨rfl, hb⟩
    clear x0 x1 f0 f1 xl y0 y1 g0 g1 yl
    replace hB := bthen hB hb
    replace HM := hide (HM.out.keep hb)
    replace HT := hide (HT.out.keep hb)
    replace HX := hide (HX.out.keep hb)
    replace HY := hide (HY.out.keep hb)
    clear hb
    obtain ⟨x0, x1, f0, f1, xl⟩ := HX.out
    obtain ⟨y0, y1, g0, g1, yl⟩ := HY.out
    go_wp2_with (fail)
    refine (HPU.out _ HM.out HT.out).mono ?_
    rintro e w7 ⟨rfl, hb⟩
    replace hB := bthen hB hb
    clear hb x0 x1 f0 f1 xl y0 y1 g0 g1 yl
    go_wp2
    go_ret
    exact ⟨rfl, hB⟩
  have hl3 := statsB_len3 hok
  have hbs := sum_bd (statsB_all_wt hok)
  have hmb := max_wt (k := topTo t.totals (t.totals.length - 1)) (statsB_all_wt hok)
  have hPI := promI_yes hok
  have hTOT := hide (totalI_yes hok)
  have hPB := hide (pureB_yes hok)
  have hTHN := hide (promI_thinD hok)
  have hTOP : topI t.totals = topTo t.totals (t.totals.length - 1) := by unfold topI; rw [if_neg (by omega)]
  have hTLE := topTo_le t.totals (t.totals.length - 1)
  obtain ⟨p, hp⟩ : ∃ p, p = promI d t := ⟨_, rfl⟩
  obtain ⟨k, hk⟩ : ∃ k, k = topTo t.totals (t.totals.length - 1) := ⟨_, rfl⟩
  obtain ⟨S, hS⟩ : ∃ S, S = t.totals.sum := ⟨_, rfl⟩
  obtain ⟨V, hV⟩ : ∃ V, V = t.totals[k]?.getD 0 := ⟨_, rfl⟩
  rw [← hk] at hPI hTOP hmb hTLE
  rw [← hV] at hPI hmb
  rw [← hS] at hPI hbs hTOT
  rw [← hp] at hPI hPB hTHN HPR
  have HTOP := hide hTOP
  have HV := hide hV
  have hkn : k < gn := by have := hGl.out; omega
  have HPI := hide hPI
  obtain ⟨pz, hpz⟩ : ∃ pz, pz = decide (p = 0) := ⟨_, rfl⟩
  have hS0 : 0 ≤ S := hbs.1
  have hS1 : S ≤ 2997 := by have := hbs.2; omega
  obtain ⟨hV0, hV1⟩ := hmb
  rw [hPB.out, ← hpz] at HPU
  have HPZ := hide (show (p == 0) = pz by rw [hpz]; rfl)
  clear hk hS hV hok hTOP hTLE hp hpz hPI hbs hl3 hPB hGl
  have hgn2 : gn ≤ 2097152 := by omega
  obtain ⟨x0, x1, f0, f1, xl⟩ := HX.out
  obtain ⟨y0, y1, g0, g1, yl⟩ := HY.out
  go_wp2_with (fail)
  refine (HPR.out _ HM.out HT.out).mono ?_
  rintro e w6 ⟨rfl, hb⟩
  clear x0 x1 f0 f1 xl y0 y1 g0 g1 yl
  replace hB := bthen hB hb
  replace HM := hide (HM.out.keep hb)
  replace HT := hide (HT.out.keep hb)
  replace HG := hide (HG.out.keep hb)
  replace HX := hide (HX.out.keep hb)
  replace HY := hide (HY.out.keep hb)
  clear hb
  obtain ⟨y0, y1, g0, g1, yl⟩ := HY.out
  go_wp2_with (fail)
  refine (implTopOf_any G gn gc t.totals _ HG.out hgn2).mono ?_
  rintro e w7 ⟨rfl, rfl⟩
  rw [HTOP.out]
  obtain ⟨ad, rfl, hadb, hcell⟩ := HG.out.at_ hkn
  rw [← HV.out] at hcell
  have hk0 : (0 : Int) ≤ k := by omega
  have hk1 : (k : Int) < gn := by omega
  obtain ⟨x0, x1, f0, f1, xl⟩ := HX.out
  have hq1 := HPI.out.symm
  have hq2 := HPZ.out
  go_wp2
  have HLT := hide (show w2.heap.size < w6.heap.size ∧ w2.heap.size + 1 < w6.heap.size ∧ (ad.add k).block < w6.heap.size from ⟨xl, yl, by rw [block_of_add]; exact hadb⟩)
  have HS : HeldP w6 w2.heap.size (w2.heap.size + 1) (ad.add k) (.slice A1 n1 c1) (.slice D1 m1 k1) (.slice (some ad) gn gc) (.slice G2 gm gk) (.int .i64 V) w6 := ⟨x0, x1, y0, y1, hcell, Below.refl _ _⟩
  unfold HeldP at HS
  have hqs : IntKind.i64.wrap (S - V) = p := by rw [IntWalk.i64_in _ (by omega)]; exact hq1
  have hqp : (p == p) = true := beq_self_eq_true p
  have hqz : (pz == pz) = true := beq_self_eq_true pz
  clear x0 x1 f0 f1 xl y0 y1 g0 g1 yl hcell hadb hS0 hS1 hV0 hV1 hkn hgn2 hgn hq1
  go_region_held3 (fun W => W.cell? ⟨w2.heap.size, 0, none⟩ = some (.slice A1 n1 c1) ∧ W.cell? ⟨w2.heap.size, 1, none⟩ = some (.slice D1 m1 k1) ∧ W.cell? ⟨w2.heap.size + 1, 0, none⟩ = some (.slice (some ad) gn gc) ∧ W.cell? ⟨w2.heap.size + 1, 1, none⟩ = some (.slice G2 gm gk) ∧ W.cell? (ad.add k) = some (.int .i64 V) ∧ Below w6.heap.size w6 W) (first | assumption | exact HeldP.keep HLT.out (by assumption) (by assumption) | exact HeldP.drew HLT.out (by assumption)) (first | (go_at_call 34; refine (implStatsTotal_any _ _ _ _ d t _ (HM.out.keep (HeldP.below (by assumption))) (HT.out.keep (HeldP.below (by assumption)))).mono ?_; rintro e o0 ⟨rfl, hb⟩; rw [hTOT.out]) | (go_at_call 32; refine (HPU.out _ (HM.out.keep (HeldP.below (by assumption))) (HT.out.keep (HeldP.below (by assumption)))).mono ?_; rintro e o1 ⟨rfl, hb⟩) | (go_at_call 35; refine (implThin_any _ _ t _ (HT.out.keep (HeldP.below (by assumption)))).mono ?_; rintro e o2 ⟨z0, z1, rfl, hm, hb⟩; replace hm := hm.m) | (go_at_call 31; refine (implPromise_any _ _ _ _ d (thinD t) _ (HM.out.keep (HeldP.below (by assumption))) (by assumption)).mono ?_; rintro e o3 ⟨rfl, hb⟩; rw [hTHN.out]))
  have hH : HeldP w6 w2.heap.size (w2.heap.size + 1) (ad.add k) (.slice A1 n1 c1) (.slice D1 m1 k1) (.slice (some ad) gn gc) (.slice G2 gm gk) (.int .i64 V) o3 := by assumption
  have hfin := bthen hB hH.below
  clear hH HS hqs hqp hqz hq2
  go_wp2
  go_ret
  exact ⟨rfl, hfin⟩
end Go.Proofs.Ytjdncobdecdhmaa
namespace Go.Proofs.Ytjdncobdecdhmaa
set_option maxRecDepth 100000

theorem words_cons (c : Char) (hc : c ≠ Char.ofNat 32) (r : List Char) (w : List Char) (ws : List (List Char)) (h : wordsSigns r = w :: ws) : wordsSigns (c :: r) = (c :: w) :: ws := by
  unfold wordsSigns
  split
  · rename_i e; simp at e
  · rename_i r e
    simp only [List.cons.injEq] at e
    exact absurd e.1 hc
  · rename_i c r _ e
    simp only [List.cons.injEq] at e
    obtain ⟨rfl, rfl⟩ := e
    rw [h]
theorem words_behind : ∀ (h : List Nat) (t : List Nat), (∀ x ∈ h, Char.ofNat x ≠ Char.ofNat 32) → wordsSigns ((h ++ 32 :: t).map Char.ofNat) = h.map Char.ofNat :: wordsSigns (t.map Char.ofNat)
  | [], t, _ => rfl
  | x :: h, t, hx => words_cons _ (hx x (by simp)) _ _ _ (words_behind h t fun y hy => hx y (by simp [hy]))

def headA : List Nat := [104, 97, 114, 110, 101, 115, 115]
def headB : List Nat := [55, 97, 51, 99, 56, 102, 54, 54, 98, 100, 102, 101, 48, 50, 57, 53, 48, 98, 48, 57, 99, 49, 51, 97, 52, 101, 100, 48, 50, 52, 54, 99, 56, 55, 51, 53, 98, 102, 97, 99, 53, 48, 99, 99, 51, 48, 55, 102, 57, 102, 48, 51, 56, 98, 49, 49, 101, 49, 102, 48, 52, 98, 48, 102]
def headC : List Nat := [99, 117, 116]
def headR : List Nat := [97, 116, 32, 108, 111, 111, 112, 46, 101, 120, 97, 109, 112, 108, 101, 47, 103, 48, 48, 52, 55, 55, 47, 108, 97, 119, 115, 46, 70, 110, 80, 97, 114, 116, 115, 32, 108, 111, 111, 112, 46, 101, 120, 97, 109, 112, 108, 101, 47, 103, 48, 48, 52, 55, 55, 47, 108, 97, 119, 115, 46, 70, 110, 69, 120, 97, 99, 116, 83, 111, 114, 116, 101, 100, 32, 108, 111, 111, 112, 46, 101, 120, 97, 109, 112, 108, 101, 47, 103, 48, 48, 52, 55, 55, 47, 108, 97, 119, 115, 46, 70, 110, 69, 120, 97, 99, 116, 83, 116, 97, 116, 115, 78, 101, 119, 32, 108, 111, 111, 112, 46, 101, 120, 97, 109, 112, 108, 101, 47, 103, 48, 48, 52, 55, 55, 47, 108, 97, 119, 115, 46, 70, 110, 69, 120, 97, 99, 116, 81, 117, 97, 110, 116, 105, 108, 101, 67, 117, 116, 115, 32, 108, 111, 111, 112, 46, 101, 120, 97, 109, 112, 108, 101, 47, 103, 48, 48, 52, 55, 55, 47, 108, 97, 119, 115, 46, 70, 110, 80, 114, 111, 109, 105, 115, 101, 32, 108, 111, 111, 112, 46, 101, 120, 97, 109, 112, 108, 101, 47, 103, 48, 48, 52, 55, 55, 47, 108, 97, 119, 115, 46, 70, 110, 67, 117, 116, 115]
theorem head_eq : Try.prog.initOrder = String.ofList ((headA ++ 32 :: (headB ++ 32 :: (headC ++ 32 :: headR))).map Char.ofNat) := by kernel_rfl
theorem head_words : wordsSigns Try.prog.initOrder.toList = headA.map Char.ofNat :: headB.map Char.ofNat :: headC.map Char.ofNat :: wordsSigns (headR.map Char.ofNat) := by
  rw [head_eq, String.toList_ofList, words_behind _ _ (by decide), words_behind _ _ (by decide), words_behind _ _ (by decide)]
theorem behind_main (rest : List (List Char)) : behindMainWord (headA.map Char.ofNat :: headB.map Char.ofNat :: headC.map Char.ofNat :: rest) = headC.map Char.ofNat :: rest := by kernel_rfl
theorem strip_none (rest : List (List Char)) : stripLifts liftWords (headC.map Char.ofNat :: rest) = ([], headC.map Char.ofNat :: rest) := by kernel_rfl
theorem not_gc : (headC.map Char.ofNat == "gc".toList) = false := by kernel_rfl
theorem not_spec : (headC.map Char.ofNat == "spec".toList) = false := by kernel_rfl
theorem not_carried : (headC.map Char.ofNat == "carried".toList) = false := by kernel_rfl
theorem is_cut : (headC.map Char.ofNat == "cut".toList) = true := by kernel_rfl
section
variable {P : Program} {rest : List (List Char)} (h : wordsSigns P.initOrder.toList = headA.map Char.ofNat :: headB.map Char.ofNat :: headC.map Char.ofNat :: rest)
include h
theorem make_of : P.make = some .cut := by
  unfold Program.make
  rw [h, behind_main]
  simp only [not_gc, not_spec, is_cut, Bool.or_self, Bool.false_eq_true, if_false, Bool.true_or, if_true]
theorem headLifts_of : P.headLifts = [] := by
  unfold Program.headLifts
  rw [h, behind_main, strip_none]
  simp only [ite_self]
theorem liftsFinal_of : P.liftsFinal = false := by
  unfold Program.liftsFinal
  rw [headLifts_of h, h, behind_main]
  simp only [List.head?_cons, List.contains_nil, Bool.or_false, Option.some_beq_some, not_carried, Bool.false_and]
theorem mayEnter_of (h1 : P.laysLater = false) (h2 : P.bearsReflect = false) (h3 : P.doorFits [] = true) : P.mayEnter = true := by
  unfold Program.mayEnter
  rw [h, behind_main]
  simp only [strip_none, h1, h2, h3, not_gc, not_spec, not_carried, List.head?_cons, Option.some_beq_some, is_cut, List.contains_nil, Bool.not_false, Bool.or_true, Bool.and_self, Bool.false_and, Bool.or_self]
end
theorem make_cut : Try.prog.make = some .cut := make_of head_words
theorem liftsFinal_no : Try.prog.liftsFinal = false := liftsFinal_of head_words
theorem mayEnter_yes : Try.prog.mayEnter = true := mayEnter_of head_words (by kernel_rfl) (by kernel_rfl) (by kernel_rfl)
end Go.Proofs.Ytjdncobdecdhmaa
namespace Go.Proofs.Ytjdncobdecdhmaa.fnPromise
open Go.ChangeShapes Go.WideShapes Go.ChangeAt Go.RowKit
open Go.ChangeMaps (open_string)
set_option linter.unusedVariables false
set_option maxRecDepth 100000


theorem lifted (os : Os) (started : os.Started) (H : Type) (enc : TypeId × Value → H) :
    ReturnsInHanded {} Try.checked os 7 .any (Rows.fnPromiseSpec.pre6 enc Try.prog Try.f7 Rows.fnPromiseRow.domain false) (Rows.fnPromiseSpec.post enc Try.prog Try.f7 false true false false) := by
  refine returnsInHanded_of_change (C := Try.checked) own started (by kernel_rfl) Try.func7
    (ChangeSpec.witness6 (enc := enc) (C := Try.checked) false ⟨#[], #[.slice none 0 0], []⟩ 8 (by kernel_rfl) (by kernel_rfl) (by kernel_rfl) (by kernel_rfl)) ?_
  intro W base args ds gs before hval0 hW hcnd _
  have hval : ∀ (j : Nat) t v, Try.f7.params[j]? = some t → args[j]? = some v → Value.okWide Try.prog W .any base t v := hval0
  have hW' := hW
  obtain ⟨p, q, hA0, hV, rfl, hfz, hnd⟩ := hW
  have hA : DataW.TrodAll enc Try.prog W 0 (fun _ => true) true Try.f7.params.toList args.toList ds p := hA0
  rw [Try.params7] at hA hval
  obtain ⟨v0, vs0, d0, ds0, p0, q0, hargs, rfl, rfl, h0, r0⟩ := trodAll_cons hA
  obtain ⟨rfl, rfl, rfl⟩ := trodAll_nil r0
  obtain rfl : args = #[v0] := by cases args; simp_all
  obtain ⟨rfl, rfl⟩ := trodVars_none hV
  obtain ⟨A0, n0, c0, l0, rfl, w0, u0⟩ := open_byteS (hval 0 22 v0 rfl rfl) h0
  exact law_post laidOut Try.underlying4 rfl (by rw [Try.params7]; exact readables (by kernel_rfl) (by kernel_rfl)) rfl hW' rfl rfl rfl (fnPromise_walk W A0 n0 c0 l0 w0 u0)

theorem facts : joinedFacts Try.prog 7 Try.f7 Rows.fnPromiseSpec Rows.fnPromiseRow = true := by
  unfold joinedFacts
  rw [mayEnter_yes, liftsFinal_no, make_cut]
  kernel_rfl

theorem over : Rows.fnPromiseRow.holds Try.pinned (OpenSpec.ofChange Rows.fnPromiseSpec) :=
  OpenClaim.holds_of_wide 7 Try.f7 rfl rfl rfl rfl rfl rfl rfl ⟨rfl, rfl, rfl, rfl, rfl⟩ rfl rfl rfl rfl rfl (by kernel_rfl) Try.func7 facts
    (of_decide_eq_true (by kernel_rfl)) (by unfold Func.isWrapper; first | (rw [if_pos (by decide +kernel)]; kernel_rfl) | (rw [if_neg (by decide +kernel)]; exact ⟨rfl, rfl⟩))
    (fun os started H enc _ => lifted os started H enc)

theorem proved : Rows.FnPromiseSaid :=
  over
#print axioms proved
end Go.Proofs.Ytjdncobdecdhmaa.fnPromise
