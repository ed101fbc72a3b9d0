/-
  Contracts: an example added to statistics by the reference.
-/
import Derived.Test.YtjdncobdecdhmaaStCopy
import Derived.Test.YtjdncobdecdhmaaStatsTotal
import Derived.Test.YtjdncobdecdhmaaStatsNew
import Derived.Test.YtjdncobdecdhmaaExOk
namespace Go.Proofs.Ytjdncobdecdhmaa
open Go.RowKit
set_option maxRecDepth 100000
set_option linter.unusedSimpArgs false

/-- The boxes of a walk that adds an example. -/
structure APre (w : World) (s0 s1 t0 t1 e0 e1 : Value) (W1 W : World) : Prop where
  z : W1.heap.size = w.heap.size + 3
  b0 : Below w.heap.size w W1
  bs : BoxW W w.heap.size s0 s1
  bt : BoxW W (w.heap.size + 1) t0 t1
  be : BoxW W (w.heap.size + 2) e0 e1
  below : Below W1.heap.size W1 W
theorem APre.keep {w W1 W W2 : World} {s0 s1 t0 t1 e0 e1 : Value} (h : APre w s0 s1 t0 t1 e0 e1 W1 W) (hb : Below W1.heap.size W W2) : APre w s0 s1 t0 t1 e0 e1 W1 W2 :=
  ⟨h.z, h.b0, h.bs.low hb (by have := h.z; omega), h.bt.low hb (by have := h.z; omega), h.be.low hb (by have := h.z; omega), h.below.trans hb⟩
theorem APre.b {w W1 W : World} {s0 s1 t0 t1 e0 e1 : Value} (h : APre w s0 s1 t0 t1 e0 e1 W1 W) : Below w.heap.size w W := bthen h.b0 h.below
theorem apre_start (w : World) (s0 s1 t0 t1 e0 e1 : Value) (a b c : TypeId) : APre w s0 s1 t0 t1 e0 e1 (((w.alloc (.cells #[s0, s1] a)).alloc (.cells #[t0, t1] b)).alloc (.cells #[e0, e1] c)) (((w.alloc (.cells #[s0, s1] a)).alloc (.cells #[t0, t1] b)).alloc (.cells #[e0, e1] c)) := by
  have z1 : (w.alloc (.cells #[s0, s1] a)).heap.size = w.heap.size + 1 := by simp
  have z2 : ((w.alloc (.cells #[s0, s1] a)).alloc (.cells #[t0, t1] b)).heap.size = w.heap.size + 2 := by simp
  have a1 := (Below.refl (w.alloc (.cells #[s0, s1] a)).heap.size (w.alloc (.cells #[s0, s1] a))).alloc (Nat.le_refl _) (.cells #[t0, t1] b)
  have a2 := (Below.refl ((w.alloc (.cells #[s0, s1] a)).alloc (.cells #[t0, t1] b)).heap.size ((w.alloc (.cells #[s0, s1] a)).alloc (.cells #[t0, t1] b))).alloc (Nat.le_refl _) (.cells #[e0, e1] c)
  have b1 := BoxW.new w s0 s1 a
  have b2 := BoxW.new (w.alloc (.cells #[s0, s1] a)) t0 t1 b
  have b3 := BoxW.new ((w.alloc (.cells #[s0, s1] a)).alloc (.cells #[t0, t1] b)) e0 e1 c
  rw [z1] at b2
  rw [z2] at b3
  exact ⟨by simp, bthen (bthen ((Below.refl _ _).alloc (Nat.le_refl _) _) a1) a2, (b1.keep a1).keep a2, b2.keep a2, b3, Below.refl _ _⟩
theorem statsB_sch {d : SchemaD} {t : StatsD} (h : statsB d t = true) : schemaB d = true := by
  unfold statsB at h
  simp only [Bool.and_eq_true] at h
  exact h.1
/-- Statistics of small lists. -/
def smallT (t : StatsD) : Prop := t.totals.length ≤ 1000 ∧ ∀ l ∈ t.cells, l.length ≤ 1000
theorem small_of {t t' : StatsD} (h1 : t'.totals.length = t.totals.length) (h2 : ∀ i : Nat, (t'.cells[i]?.getD []).length = (t.cells[i]?.getD []).length) (h : smallT t) : smallT t' := by
  refine ⟨by rw [h1]; exact h.1, fun l hl => ?_⟩
  obtain ⟨i, hi, rfl⟩ := List.mem_iff_getElem.1 hl
  have e := h2 i
  rw [List.getElem?_eq_getElem hi, Option.getD_some] at e
  rw [e]
  rcases Nat.lt_or_ge i t.cells.length with q | q
  · rw [List.getElem?_eq_getElem q, Option.getD_some]; exact h.2 _ (List.getElem_mem q)
  · rw [List.getElem?_eq_none q]; simp
theorem set_lens (l : List (List Int)) (K p : Nat) (y : Int) (i : Nat) : ((l.set K ((l[K]?.getD []).set p y))[i]?.getD []).length = (l[i]?.getD []).length := by
  by_cases e : i = K
  · subst e
    by_cases h : i < l.length
    · rw [List.getElem?_set_self h, Option.getD_some, List.length_set]
    · rw [List.getElem?_eq_none (by rw [List.length_set]; omega), List.getElem?_eq_none (by omega)]
  · rw [List.getElem?_set_ne (Ne.symm e)]
theorem inB_idx {u : Int} {k : Nat} (h : inB u (-1) ((k : Int) - 1) = true) (h0 : 0 ≤ u) : u.toNat < k := by
  have := inB_iff.1 h
  omega
theorem statsB_lens {d : SchemaD} {t : StatsD} (h : statsB d t = true) : t.totals.length = d.classes.length ∧ (t.cells.length = 0 ∨ t.cells.length = d.attrs.length) ∧ ∀ i, i < t.cells.length → ((t.cells[i]?.getD []).length : Int) = binsOf (d.attrs[i]?.getD default) * d.classes.length := by
  unfold statsB at h
  simp only [Bool.and_eq_true, Bool.or_eq_true, decide_eq_true_eq] at h
  obtain ⟨-, h1, -, -, h2⟩ := h
  refine ⟨h1, ?_, fun i hi => ?_⟩
  · rcases h2 with h2 | h2
    · exact .inl h2
    · exact .inr h2.1
  · rcases h2 with h2 | h2
    · omega
    · have := List.all_eq_true.1 h2.2 i (List.mem_range.2 hi)
      unfold rowAt rowB at this
      simp only [Bool.and_eq_true, decide_eq_true_eq] at this
      exact this.1
theorem total_bd (d : SchemaD) (t : StatsD) : 0 ≤ totalI d t ∧ totalI d t ≤ 999 := by
  rcases h : statsB d t with _ | _
  · rw [totalI_no h]; omega
  · rw [totalI_yes h]
    refine ⟨(sum_bd (statsB_all_wt h)).1, ?_⟩
    unfold statsB at h
    simp only [Bool.and_eq_true, decide_eq_true_eq] at h
    exact h.2.2.2.1
theorem exB_parts0 {d : SchemaD} {e : ExD} (h : exB d e = true) : e.bins.length = d.attrs.length ∧ (-1 ≤ e.cls ∧ e.cls ≤ (d.classes.length : Int) - 1) ∧ ∀ i, i < e.bins.length → fitB d e i = true := by
  unfold exB at h
  simp only [Bool.and_eq_true, decide_eq_true_eq] at h
  obtain ⟨h1, h2, h3, h4⟩ := h
  exact ⟨h2, inB_iff.1 h3, fun i hi => List.all_eq_true.1 h4 i (List.mem_range.2 hi)⟩
theorem cell_in {b m c : Int} {u v : Nat} (hu : (u : Int) ≤ b - 1) (hv : (v : Int) ≤ m - 1) (hc : c = b * m) : (u : Int) * m + v < c := by
  subst hc
  have h1 : (u : Int) + 1 ≤ b := by omega
  have h2 := Int.mul_le_mul_of_nonneg_right h1 (show 0 ≤ m by omega)
  rw [Int.add_mul] at h2
  omega

set_option maxHeartbeats 16000000 in
theorem specStatsAdd_any (s0 s1 t0 t1 e0 e1 : Value) (d : SchemaD) (t : StatsD) (E : ExD) (x : Int) (w : World) (h : SchemaM w s0 s1 d) (h' : StatsM w t0 t1 t) (hE : ExM w e0 e1 E) (hx0 : 1 ≤ x) (hx1 : x ≤ 7) :
    Calls Try.prog 122 #[.agg #[s0, s1], .agg #[t0, t1], .agg #[e0, e1], .int .i64 x] w fun e w' => ∃ y0 y1 ok, e = .returned (.tuple #[.agg #[y0, y1], .bool ok]) ∧ (∃ t', StatsO w.heap.size w'.heap.size w' y0 y1 t' ∧ (smallT t → smallT t')) ∧ Below w.heap.size w w' := by
  have hSM := hide h
  have hTM := hide h'
  have hEM := hide hE
  obtain ⟨A, n, c, D, m, k, rfl, rfl, hl, hn, hr, hs, hm, hmk⟩ := h
  obtain ⟨A2, n2, c2, D2, m2, k2, rfl, rfl, hl2, hn2, hr2, hm2⟩ := h'
  obtain ⟨G, gn, gc, rfl, rfl, hg, hgn, hwf⟩ := hE
  have hP := apre_start w (.slice A n c) (.slice D m k) (.slice A2 n2 c2) (.slice D2 m2 k2) (.slice G gn gc) (.int .i64 E.cls) 43 39 129
  obtain ⟨W1, hW1⟩ : ∃ W, W = ((w.alloc (.cells #[.slice A n c, .slice D m k] 43)).alloc (.cells #[.slice A2 n2 c2, .slice D2 m2 k2] 39)).alloc (.cells #[.slice G gn gc, .int .i64 E.cls] 129) := ⟨_, rfl⟩
  rw [← hW1] at hP
  obtain ⟨W2, hW2⟩ : ∃ W, W = W1.alloc (.cells #[.slice none 0 0, .slice none 0 0] 39) := ⟨_, rfl⟩
  have hal2 : Below W1.heap.size W1 W2 := by rw [hW2]; exact (Below.refl _ _).alloc (Nat.le_refl _) _
  have hz2 : W2.heap.size = w.heap.size + 4 := by rw [hW2]; simp [hP.z]
  have hR2 : BoxW W2 (w.heap.size + 3) (.slice none 0 0) (.slice none 0 0) := by rw [hW2, ← hP.z]; exact BoxW.new _ _ _ _
  have HP0 := hide hP
  have HP := hide (hP.keep hal2)
  have HW := hide (show W2 = (((w.alloc (.cells #[.slice A n c, .slice D m k] 43)).alloc (.cells #[.slice A2 n2 c2, .slice D2 m2 k2] 39)).alloc (.cells #[.slice G gn gc, .int .i64 E.cls] 129)).alloc (.cells #[.slice none 0 0, .slice none 0 0] 39) by rw [hW2, hW1])
  have hNC := hide hr.1
  have hG1 := hide hg.1
  have HG := hide hg
  have HR := hide hr
  clear hP hW1 hW2 hl hr hs hl2 hr2 hg
  go_enter Try.func122, Try.ntmps122
  obtain ⟨y0, y1, g0, g1, yl⟩ := HP.out.bt
  rw [HW.out] at y0 y1 g0 g1 yl
  go_wp2_with (fail)
  rw [← HW.out]
  refine (l8Copy_any _ _ t _ (hTM.out.keep HP.out.b)).mono ?_
  rintro e w3 ⟨u0, u1, rfl, hO, hb⟩
  obtain ⟨T, tn, tc, Q, qm, qk, rr, rfl, rfl, hst, -, -⟩ := hO.p
  have hz3 := hb.size
  have HV := hide (vstate_of (w := W1) (S := fun _ => False) (r := w.heap.size + 3) (hR2.keep hb) (by have := HP.out.z; omega) (by omega) (by have := HP.out.z; omega) hst (fun j hj => hj.elim) (fun j hj => hj.elim) (Only.of_below (HP.out.below.trans (hb.mono (by have := HP.out.z; omega)))) 39)
  replace HP := hide ((HP.out.keep (hb.mono (by have := HP.out.z; omega))).keep ((Below.refl _ _).alloc (by have := HP.out.z; omega) (.cells #[.slice T tn tc, .slice Q qm qk] 39)))
  have HLN := hide hst.len
  clear hb hO hst hR2 hal2 hz2 y0 y1 g0 g1 yl HW
  obtain ⟨x0, x1, f0, f1, xl⟩ := HP.out.bs
  obtain ⟨y0, y1, g0, g1, yl⟩ := HP.out.bt
  obtain ⟨z0, z1, h0, h1, zl⟩ := HP.out.be
  go_wp2_with (fail)
  refine (specStatsOk_any _ _ _ _ d t _ (hSM.out.keep HP.out.b) (hTM.out.keep HP.out.b)).mono ?_
  rintro e w4 ⟨rfl, hb⟩
  clear x0 x1 f0 f1 xl y0 y1 g0 g1 yl z0 z1 h0 h1 zl
  replace HV := hide (HV.out.keep hb)
  replace HP := hide (HP.out.keep (hb.mono (by have := HP.out.below.size; omega)))
  clear hb
  cases hok : statsB d t
  · clear hok
    obtain ⟨i0, i1, p0, p1, il⟩ := HV.out.box
    obtain ⟨r0, r1, q0, q1, rl⟩ := HV.out.res
    have HFIN := hide (HV.out.fin (.slice T tn tc) (.slice Q qm qk))
    go_wp2
    exact bodyPost_ret (v := .tuple #[.agg #[.slice T tn tc, .slice Q qm qk], .bool false]) (by simp [results, Try.results122, go_sem, r0, r1]) rfl
      ⟨_, _, _, rfl, ⟨_, HFIN.out.1.o.mono (by have := HP.out.z; omega), fun h => h⟩, bthen HP.out.b0 (only_none HFIN.out.2.2)⟩
  have HOK := hide hok
  clear hok
  obtain ⟨x0, x1, f0, f1, xl⟩ := HP.out.bs
  obtain ⟨y0, y1, g0, g1, yl⟩ := HP.out.bt
  obtain ⟨z0, z1, h0, h1, zl⟩ := HP.out.be
  go_wp2_with (fail)
  refine (specExOk_any _ _ _ _ d E _ (hSM.out.keep HP.out.b) (hEM.out.keep HP.out.b)).mono ?_
  rintro e w5 ⟨rfl, hb⟩
  clear x0 x1 f0 f1 xl y0 y1 g0 g1 yl z0 z1 h0 h1 zl
  replace HV := hide (HV.out.keep hb)
  replace HP := hide (HP.out.keep (hb.mono (by have := HP.out.below.size; omega)))
  clear hb
  cases hex : exB d E
  · clear hex
    obtain ⟨i0, i1, p0, p1, il⟩ := HV.out.box
    obtain ⟨r0, r1, q0, q1, rl⟩ := HV.out.res
    have HFIN := hide (HV.out.fin (.slice T tn tc) (.slice Q qm qk))
    go_wp2
    exact bodyPost_ret (v := .tuple #[.agg #[.slice T tn tc, .slice Q qm qk], .bool false]) (by simp [results, Try.results122, go_sem, r0, r1]) rfl
      ⟨_, _, _, rfl, ⟨_, HFIN.out.1.o.mono (by have := HP.out.z; omega), fun h => h⟩, bthen HP.out.b0 (only_none HFIN.out.2.2)⟩
  have HEX := hide hex
  clear hex
  obtain ⟨cls, hcls⟩ : ∃ cls, cls = E.cls := ⟨_, rfl⟩
  have HCB := hide (exB_parts0 HEX.out).2.1
  rw [← hcls] at HCB HP HP0 hEM
  have HCL := hide hcls
  clear hcls hwf
  obtain ⟨x0, x1, f0, f1, xl⟩ := HP.out.bs
  obtain ⟨y0, y1, g0, g1, yl⟩ := HP.out.bt
  obtain ⟨z0, z1, h0, h1, zl⟩ := HP.out.be
  by_cases hneg : cls < 0
  · obtain ⟨i0, i1, p0, p1, il⟩ := HV.out.box
    obtain ⟨r0, r1, q0, q1, rl⟩ := HV.out.res
    have HFIN := hide (HV.out.fin (.slice T tn tc) (.slice Q qm qk))
    go_wp2
    exact bodyPost_ret (v := .tuple #[.agg #[.slice T tn tc, .slice Q qm qk], .bool false]) (by simp [results, Try.results122, go_sem, r0, r1]) rfl
      ⟨_, _, _, rfl, ⟨_, HFIN.out.1.o.mono (by have := HP.out.z; omega), fun h => h⟩, bthen HP.out.b0 (only_none HFIN.out.2.2)⟩
  have hxin := hide (show inB x 1 7 = true from inB_iff.2 ⟨hx0, hx1⟩)
  go_wp2_with (fail)
  refine (l1In_any _ _ _ _).mono ?_
  rintro e w6 ⟨rfl, rfl⟩
  rw [hxin.out]
  go_wp2_with (fail)
  refine (specStatsTotal_any _ _ _ _ d t _ (hSM.out.keep HP.out.b) (hTM.out.keep HP.out.b)).mono ?_
  rintro e w7 ⟨rfl, hb⟩
  clear x0 x1 f0 f1 xl y0 y1 g0 g1 yl z0 z1 h0 h1 zl
  have htb := total_bd d t
  generalize totalI d t = tot at *
  replace HV := hide (HV.out.keep hb)
  replace HP := hide (HP.out.keep (hb.mono (by have := HP.out.below.size; omega)))
  clear hb
  obtain ⟨x0, x1, f0, f1, xl⟩ := HP.out.bs
  obtain ⟨y0, y1, g0, g1, yl⟩ := HP.out.bt
  obtain ⟨z0, z1, h0, h1, zl⟩ := HP.out.be
  by_cases hbig : 999 < tot + x
  · have hbig2 := hbig
    obtain ⟨i0, i1, p0, p1, il⟩ := HV.out.box
    obtain ⟨r0, r1, q0, q1, rl⟩ := HV.out.res
    have HFIN := hide (HV.out.fin (.slice T tn tc) (.slice Q qm qk))
    go_wp2
    exact bodyPost_ret (v := .tuple #[.agg #[.slice T tn tc, .slice Q qm qk], .bool false]) (by simp [results, Try.results122, go_sem, r0, r1]) rfl
      ⟨_, _, _, rfl, ⟨_, HFIN.out.1.o.mono (by have := HP.out.z; omega), fun h => h⟩, bthen HP.out.b0 (only_none HFIN.out.2.2)⟩
  have hlens := statsB_lens HOK.out
  have hclen := hide (exB_parts0 HEX.out)
  obtain ⟨c0, hc0⟩ : ∃ c0 : Nat, cls = c0 := ⟨cls.toNat, by omega⟩
  subst hc0
  have hcn : c0 < tn := by
    have h1 := HLN.out.1
    have h2 := hlens.1
    have h3 := HCB.out
    omega
  have hcm : c0 < m := by
    have h2 := hNC.out
    have h3 := HCB.out
    omega
  obtain ⟨gT, hT, hT1, hT2⟩ := own_form HV.out.st.tot (by omega)
  subst hT
  have hTc := HV.out.st.tot.cellAt c0 (by omega)
  have hTf := HV.out.st.tot.frozenAt c0
  obtain ⟨V, hV⟩ : ∃ V, V = t.totals[c0]?.getD 0 := ⟨_, rfl⟩
  rw [List.getElem?_map, List.getElem?_eq_getElem (by have := HLN.out.1; omega), Option.map_some] at hTc
  have hVV : t.totals[c0]'(by have := HLN.out.1; omega) = V := by rw [hV, List.getElem?_eq_getElem (by have := HLN.out.1; omega), Option.getD_some]
  rw [hVV] at hTc
  have hi0 : (0 : Int) ≤ c0 := by omega
  have hi1 : (c0 : Int) < tn := by omega
  obtain ⟨i0, i1, p0, p1, il⟩ := HV.out.box
  clear hVV hV hlens
  have HV1 := hide (fun u => HV.out.setTot (i := c0) (u := u) rfl)
  go_wp2
  go_region
  all_goals
    have hlow0 : Below W1.heap.size w7 (w7.setCell ⟨gT, c0, none⟩ (.int .i64 (wrap64 (V + x)))).drew := ((Below.refl _ _).setCell (p := ⟨gT, c0, none⟩) hT1 _).drew
    replace HP := hide (HP.out.keep hlow0)
    have HV2 := hide ((HV1.out (wrap64 (V + x))).keep (Below.refl _ _).drew)
    have hlens := hide (statsB_lens HOK.out)
    clear HV HV1 i0 i1 p0 p1 il hTc hTf hlow0 x0 x1 f0 f1 xl y0 y1 g0 g1 yl z0 z1 h0 h1 zl
    go_wp2
    go_loopw [11] (fun i wr => ∃ K : Nat, K ≤ qm ∧ i = .int .i64 K ∧ ∃ rr', ∃ t' : StatsD, VState W1 (fun _ => False) (w.heap.size + 3) w3.heap.size wr (some ⟨gT, 0, none⟩) tn tc Q qm qk rr' t' ∧ Hid (∀ i : Nat, (t'.cells[i]?.getD []).length = (t.cells[i]?.getD []).length)) (fun i _ => qm - (intOf i).toNat)
    case atStart => exact ⟨0, Nat.zero_le _, rfl, _, _, HV2.out, fun _ => rfl⟩
    case round =>
      clear HV2
      obtain ⟨K, hk, rfl, rr', t', hS, hL⟩ := hrel
      have HV := hide hS
      clear hS
      have HB := hide (only_none HV.out.only)
      obtain ⟨x0, x1, f0, f1, xl⟩ := HP0.out.bs.low HB.out (by have := HP0.out.z; omega)
      obtain ⟨z0, z1, h0, h1, zl⟩ := HP0.out.be.low HB.out (by have := HP0.out.z; omega)
      obtain ⟨i0, i1, p0, p1, il⟩ := HV.out.box
      by_cases hlt : K < qm
      · have hkc : K < t.cells.length := by have := HLN.out.2; omega
        have hkg : K < gn := by
          have h1 := hclen.out.1
          have h2 := hG1.out
          rcases hlens.out.2.1 with h3 | h3 <;> omega
        have hrow := hlens.out.2.2 K hkc
        have hfit := hclen.out.2.2 K (by have := hG1.out; omega)
        unfold fitB at hfit
        obtain ⟨a, ha⟩ : ∃ a, a = d.attrs[K]?.getD default := ⟨_, rfl⟩
        rw [← ha] at hrow hfit
        obtain ⟨ad, rfl, hadb, hcell⟩ := (HG.out.keep (bthen HP0.out.b0 HB.out)).at_ hkg
        obtain ⟨u, hu⟩ : ∃ u, u = E.bins[K]?.getD 0 := ⟨_, rfl⟩
        rw [← hu] at hcell hfit
        obtain ⟨hu0, hu1⟩ := inB_iff.1 hfit
        obtain ⟨hb0, hb4⟩ := binsOf_bd a
        clear hfit ha hu
        have hq0 : (0 : Int) ≤ K := by omega
        have hq1 : (K : Int) < gn := by omega
        have hq2 : (K : Int) < qm := by omega
        by_cases hpos : 0 ≤ u
        · obtain ⟨u0, rfl⟩ := Int.eq_ofNat_of_zero_le hpos
          have hm3 : m ≤ 3 := by
            have := hNC.out
            rcases schemaB_classes (statsB_sch HOK.out) with h | h <;> omega
          obtain ⟨HM, hw64, hZ⟩ := mul_bins (b := (u0 : Int)) hpos (by omega) hm3
          clear hw64
          replace HM := hide HM
          have hin := cell_in hu1 (show (c0 : Int) ≤ (m : Int) - 1 by omega) (show (((t.cells[K]?.getD []).length : Nat) : Int) = binsOf a * (m : Int) by rw [hrow, ← hNC.out])
          rw [Int.toNat_natCast] at HM hZ
          rw [← Int.natCast_mul] at hin
          obtain ⟨Z, hZe⟩ : ∃ Z, Z = u0 * m := ⟨_, rfl⟩
          rw [← hZe] at HM hZ hin
          obtain ⟨gQ, A', n', c', hQ, hQc, hQf, hrr, hro, hn', hgQ⟩ := HV.out.st.row hlt
          subst hQ
          obtain ⟨p, hp⟩ : ∃ p, p = Z + c0 := ⟨_, rfl⟩
          have hZn : p < n' := by have := hL.out K; omega
          obtain ⟨gR, rfl, hR1, hR2⟩ := own_form hro (by omega)
          have hRf := hro.frozenAt p
          have hRc := hro.cellAt p (by omega)
          rw [List.getElem?_map, List.getElem?_eq_getElem (by omega), Option.map_some] at hRc
          obtain ⟨Y, hY⟩ : ∃ Y, Y = (t'.cells[K]?.getD [])[p]'(by omega) := ⟨_, rfl⟩
          rw [← hY] at hRc
          have hb3 := HV.out.st.b3
          have HV9 := hide (fun (q : Nat) (y : Int) => (HV.out.keep (below_drewN (Below.refl _ wr) q)).setCell (j := p) (u := y) hlt hrr (own_below hro (below_drewN (Below.refl _ wr) q)) (by
            have e : t'.cells[K]?.getD [] ∈ t'.cells := by
              rw [getD_of_lt (by have := HV.out.st.len.2; omega)]
              exact List.getElem_mem _
            have := hb3 _ e
            omega))
          have hq3 : (0 : Int) ≤ (p : Int) := by omega
          have hq4 : (p : Int) < n' := by omega
          have HSUM := hide (show IntKind.i64.wrap ((Z : Int) + c0) = (p : Int) from by rw [IntWalk.i64_in _ (by omega)]; omega)
          clear hZe hin hrow hY hrr hb3 hro hn' hadb hp hb0 hb4 hu1 hpos
          have hmul := HM.out
          have hsum := HSUM.out
          go_wp2
          go_quiet (fail)
          clear hsum hmul
          go_wp2
          go_region
          all_goals
            obtain ⟨rr9, hS9⟩ := HV9.out (nq + 1) (wrap64 (Y + x))
            have HS9 := hide hS9
            have hL9 := hide (fun i => (set_lens t'.cells K p (wrap64 (Y + x)) i).trans (hL.out i))
            clear hS9 HV9 hRc hRf hcell hQc hQf x0 x1 f0 f1 xl z0 z1 h0 h1 zl i0 i1 p0 p1 il
            go_wp2
            go_roundw
            case rel => exact ⟨K + 1, by omega, by go_num, rr9, _, HS9.out, hL9.out⟩
            case measure => simp [intOf]; omega
        · have hneg2 : ¬ (0 : Int) ≤ u := hpos
          go_wp2
          go_roundw
          case rel => exact ⟨K + 1, by omega, by go_num, rr', t', HV.out, hL⟩
          case measure => simp [intOf]; omega
      · obtain rfl : K = qm := by omega
        obtain ⟨r0, r1, q0, q1, rl⟩ := HV.out.res
        have HFIN := hide (HV.out.fin (.slice (some ⟨gT, 0, none⟩) tn tc) (.slice Q K qk))
        go_wp2
        exact bodyPost_ret (v := .tuple #[.agg #[.slice (some ⟨gT, 0, none⟩) tn tc, .slice Q K qk], .bool true]) (by simp [results, Try.results122, go_sem, r0, r1]) rfl
          ⟨_, _, _, rfl, ⟨_, HFIN.out.1.o.mono (by have := HP0.out.z; omega), small_of (by have := HV.out.st.len.1; have := HLN.out.1; omega) hL.out⟩, bthen HP0.out.b0 (only_none HFIN.out.2.2)⟩
end Go.Proofs.Ytjdncobdecdhmaa
