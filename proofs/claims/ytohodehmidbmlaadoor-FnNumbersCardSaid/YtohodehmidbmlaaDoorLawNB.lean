/-
  The law FnNumbers: the walk.
-/
import Derived.Test.YtohodehmidbmlaaDoorNumbW
namespace Go.Proofs.YtohodehmidbmlaaDoor
open Go.RowKit
set_option maxRecDepth 100000

theorem Bytes.cells {w : World} {A : Option Addr} {n : Nat} {l : List UInt8} (h : Bytes w A n l) : ∀ j u, (l.map byteV)[j]? = some u → ∃ ad, A = some ad ∧ w.cell? (ad.add j) = some u := by
  intro j u hu
  have hj : j < l.length := by
    rcases Nat.lt_or_ge j l.length with h | h
    · exact h
    · rw [List.getElem?_eq_none (by simpa using h)] at hu; cases hu
  obtain ⟨ad, e, _, hc⟩ := h.at_ (k := j) (by have := h.1; omega)
  rw [getD_map_byte hj] at hu
  injection hu with hu
  subst hu
  exact ⟨ad, e, hc⟩
theorem one_bytes (l : List UInt8) : ∀ u ∈ l.map byteV, u.oneCell' = true := by
  intro u hu
  obtain ⟨x, _, rfl⟩ := List.mem_map.1 hu
  rfl
theorem caps {w : World} {B : Nat} {e : TypeId} {sz n n' c : Nat} {A : Option Addr} {xs : List Value} (h : w.ownsRow B e sz (.slice A n c) n' xs) : n ≤ c ∧ c ≤ 9223372036854775807 := by
  rcases h.2 with ⟨hv, h0⟩ | ⟨g, cap, cur, hv, _, _, h1, h2, _⟩
  · injection hv with h1 h2 h3
    subst h2 h3
    omega
  · injection hv with h3 h4 h5
    subst h4 h5
    exact ⟨h1, by unfold maxLen at h2; exact h2⟩
theorem putB_pos {x : Int} (h : 0 < (putB x).length) : 0 ≤ x ∧ x ≤ 2147483647 := by
  unfold putB at h
  split at h
  · rename_i h2; exact inB_iff.1 h2
  · simp at h

set_option maxHeartbeats 8000000 in
theorem fnNumbers_walk (w : World) (A : Option Addr) (n c : Nat) (l : List UInt8) (_ : n ≤ maxLen) (hl : Bytes w A n l) (hd : DoorW w) :
    Calls Tryd.prog 12 #[.slice A n c] w fun e w' => e = .returned (.bool true) ∧ Below w.heap.size w w' := by
  have HL := hide hl
  have HD := hide hd
  clear hl hd
  by_cases hbig : (1048576 : Int) < n
  · have hd : decide (1048576 < (n : Int)) = true := decide_eq_true hbig
    go_enter Tryd.func12, Tryd.ntmps12
    go_wp2_with (fail)
    refine (big_any A n c _).mono ?_
    rintro e w1 ⟨rfl, rfl⟩
    rw [hd]
    go_wp2
    go_ret
    exact ⟨rfl, Below.refl _ _⟩
  have hd : decide (1048576 < (n : Int)) = false := decide_eq_false hbig
  have hn2 : n ≤ 1048576 := by omega
  go_enter Tryd.func12, Tryd.ntmps12
  go_wp2_with (fail)
  refine (big_any A n c _).mono ?_
  rintro e w1 ⟨rfl, rfl⟩
  rw [hd]
  clear hd hbig
  go_wp2_with (fail)
  refine (drawPutNum_any A n c l _ HL.out hn2).mono ?_
  rintro e w2 ⟨x, rfl, hx0, hx1, hB⟩
  go_wp2_with (fail)
  refine (drawPutText_any A n c l _ (HL.out.keep hB) hn2).mono ?_
  rintro e w3 ⟨s, rfl, hs, hb⟩
  replace hB := bthen hB hb
  clear hb
  have HS := hide hs
  go_wp2_with (fail)
  refine (implPutText_any s _ (by omega)).mono ?_
  rintro e w4 ⟨D1, n1, m1, rfl, ho1, hn1, hb⟩
  replace hB := bthen hB hb
  clear hb
  have hps := putT_len s
  have hpl := putB_len s.size
  have hpx := putB_len x
  have HT := hide (show getT (putT s ++ putB x ++ [7]) 0 = some (s, (putT s).length) from by rw [List.append_assoc]; exact getT_put s (putB x ++ [7]) (by omega))
  have HP := hide (show 0 < (putB x).length → getD (putT s ++ putB x ++ [7]) (putT s).length = some (x.toNat, (putT s).length + (putB x).length) from fun h => getD_put (putT s) [7] x (putB_pos h).1 (putB_pos h).2)
  have HX := hide (show 0 < (putB x).length → 0 ≤ x from fun h => (putB_pos h).1)
  obtain ⟨T, hT⟩ : ∃ T, T = putT s := ⟨_, rfl⟩
  obtain ⟨N, hN⟩ : ∃ N, N = putB x := ⟨_, rfl⟩
  have hPN := hide (show ∀ W, Calls Tryd.prog 57 #[.int .i64 x] W (fun e w' => ∃ D n m, e = .returned (.slice D n m) ∧ w'.ownsRow W.heap.size 5 1 (.slice D n m) n (N.map byteV) ∧ n = N.length ∧ Below W.heap.size W w') from fun W => (specPutNum_any x W).mono (by
    rintro e w' ⟨D, k, m, rfl, h1, h2, h3⟩
    rw [← hN] at h1 h2
    refine ⟨D, k, m, rfl, ?_, h2, h3⟩
    have h4 : w'.ownsRow W.heap.size 5 1 (.slice D k m) N.length (N.map byteV) := h1
    rwa [← h2] at h4))
  rw [← hT] at ho1 hn1 hps HT HP
  rw [← hN] at hpx HT HP HX
  unfold OwnB at ho1
  rw [← hn1] at ho1
  have hn14 : n1 ≤ 14 := by omega
  have HN1 := hide hn1
  have HC1 := hide (bytes_of ho1)
  clear hT hN hps hpl hn1 ho1 hs
  have hz14 : w1.heap.size ≤ w4.heap.size := hB.size
  have hown0 := own_empty w4 w4.heap.size 5 1 (Nat.le_refl _)
  have hal : Below w4.heap.size w4 (w4.alloc (.cells #[] 5)) := (Below.refl _ _).alloc (Nat.le_refl _) _
  have HC2 := hide (HC1.out.keep hal).cells
  replace hB := bthen hB hal
  go_wp2_with (at_builtin; go_must (refine wpList_append_src _ rfl _ _ 26 rfl w4.heap.size 5 (.int .u8 0) 1 1 Tryd.underlying26 infoB rfl (by decide) _ 0 _ (T.map byteV) rfl hown0 D1 n1 m1 rfl (by rw [List.length_map, Nat.mul_one]; exact HN1.out.symm) HC2.out (one_bytes T) (by unfold maxLen; omega) (by omega) (by simp) ?_); intro v1 w5 hown5 hb5 hg5 hn5)
  rw [Nat.zero_add, List.nil_append] at hown5
  obtain ⟨D5, m5, rfl⟩ := own_shape hown5
  have hsz5 := hb5.size
  replace hB := hB.trans (hb5.mono hz14)
  clear hg5 hn5 hb5 hal hown0 HC2
  go_wp2_with (fail)
  refine (hPN.out _).mono ?_
  rintro e w6 ⟨D6, n6, m6, rfl, ho6, hn6, hb6⟩
  have hown6 := own_below hown5 hb6
  have hsz6 := hb6.size
  replace hB := bthen hB hb6
  have HN6 := hide hn6
  have HC6 := hide (bytes_of ho6).cells
  have hn65 : n6 ≤ 5 := by omega
  clear hown5 hb6 ho6 hn6
  go_wp2_with (at_builtin; go_must (refine wpList_append_src _ rfl _ _ 26 rfl w4.heap.size 5 (.int .u8 0) 1 1 Tryd.underlying26 infoB rfl (by decide) _ n1 _ (N.map byteV) rfl hown6 D6 n6 m6 rfl (by rw [List.length_map, Nat.mul_one]; exact HN6.out.symm) HC6.out (one_bytes N) (by unfold maxLen; omega) (by omega) (by simp at hsz5; omega) ?_); intro v7 w7 hown7 hb7 hg7 hn7; refine Hid.out ?_)
  refine hide ?_
  obtain ⟨D7, m7, rfl⟩ := own_shape hown7
  have hsz7 := hb7.size
  replace hB := hB.trans (hb7.mono hz14)
  clear hg7 hn7 hb7 hown6 HC6
  go_wp2_with (at_builtin; go_must (refine wpList_append_one w7 rfl _ _ 26 rfl w4.heap.size 5 (.int .u8 0) 1 1 Tryd.underlying26 infoB rfl (by decide) _ (n1 + n6) _ [.int .u8 7] rfl hown7 _ rfl rfl (by simp [Value.oneCell']) rfl (by unfold maxLen; omega) (by omega) (by simp at hsz5; omega) ?_); intro v8 w8 hown8 hb8 hn8 hg8; refine Hid.out ?_)
  refine hide ?_
  obtain ⟨D8, m8, rfl⟩ := own_shape hown8
  have hcap := caps hown8
  have hsz8 := hb8.size
  replace hB := hB.trans (hb8.mono hz14)
  have HBY := hide (show Bytes w8 D8 (n1 + n6 + 1) (T ++ N ++ [7]) from bytes_of (by
    have e : (T ++ N ++ [7]).map byteV = T.map byteV ++ N.map byteV ++ [.int .u8 7] := by simp [byteV]
    rw [e]; exact hown8))
  obtain ⟨hcp1, hcp2⟩ := hcap
  clear hg8 hn8 hb8 hown7 hown8
  go_wp2_with (fail)
  refine (implGetText_any D8 (n1 + n6 + 1) m8 (T ++ N ++ [7]) 0 _ HBY.out (by omega) hcp1 hcp2 (by omega)).mono ?_
  rintro e w9 ⟨rfl, rfl⟩
  rw [HT.out]
  simp only [tripT]
  rw [← HN1.out]
  have q1 : (s.toList != s.toList) = false := by simp
  have q2 : ((n1 : Int) != n1) = false := by simp
  go_wp2_with (fail)
  refine (hPN.out _).mono ?_
  rintro e w10 ⟨D10, n10, m10, rfl, -, hn10, hb⟩
  replace hB := bthen hB hb
  have hn106 : n10 = n6 := by have := HN6.out; omega
  subst hn106
  have HBY2 := hide (HBY.out.keep hb)
  clear hb hn10 hPN q1
  have HK := hide (fun (W : World) (hW : Below w1.heap.size w1 W) => at0_any A n c l 3 W (HL.out.keep hW) hn2 (by omega))
  by_cases hpos : 0 < N.length
  case' pos =>
    have hg := HP.out hpos
    have hx := HX.out hpos
    obtain ⟨y, rfl⟩ := Int.eq_ofNat_of_zero_le hx
    have hn60 : 0 < n10 := by have := HN6.out; omega
    have hn61 : (0 : Int) < n10 := by omega
    rw [← HN1.out, ← HN6.out, Int.toNat_natCast] at hg
    have HG := hide hg
    clear hg hx hpos HP HX
    go_wp2_with (fail)
    refine (implGetNum_any D8 (n1 + n10 + 1) m8 (T ++ N ++ [7]) n1 _ HBY2.out (by omega) (by omega)).mono ?_
    rintro e w11 ⟨rfl, rfl⟩
    rw [HG.out]
    simp only [tripO]
    have q3 : ((y : Int) != y) = false := by simp
    go_wp2_with (fail)
  case' neg =>
    have hn60 : n10 = 0 := by have := HN6.out; omega
    subst hn60
    clear hpos HP HX
    go_wp2_with (fail)
  all_goals
    refine (HK.out _ hB).mono ?_
    rintro e w11 ⟨y9, rfl, hy0, hy1, rfl⟩
    clear HK q2 HBY HBY2 HT
    obtain ⟨k, hk⟩ : ∃ k, k = y9 * 37 - 4700 := ⟨_, rfl⟩
    have hk0 : -9999 ≤ k := by omega
    have hk1 : k ≤ 9999 := by omega
    have hz := numB_size5 (v := k) hk0 hk1 rfl
    have HRD := hide (show rdI (numB k) (-9999) 9999 = (k, true) from rdI_yes (by omega) (by omega) (inB_iff.2 ⟨hk0, hk1⟩) rfl)
    have hDG := hide (fun (W : World) (hW : Below w1.heap.size w1 W) => implDigits_any k (by omega) (by omega) W (HD.out.keep hW).tab)
    have hSG := hide (fun (W : World) (hW : Below w1.heap.size w1 W) => implSigned_any (numB k) (by omega) W (HD.out.keep hW))
    rw [HRD.out] at hSG
    rw [hk] at hDG hSG
    clear hk hk0 hk1 hz HRD
    go_wp2_with (fail)
    refine (hDG.out _ hB).mono ?_
    rintro e w12 ⟨rfl, hb⟩
    replace hB := bthen hB hb
    clear hb hDG
    go_wp2_with (fail)
    refine (hSG.out _ hB).mono ?_
    rintro e w13 ⟨rfl, hb⟩
    replace hB := bthen hB hb
    clear hb hSG
    have q9 : ((y9 * 37 - 4700 : Int) == y9 * 37 - 4700) = true := by simp
    go_wp2
    go_ret
    exact ⟨rfl, hB⟩
end Go.Proofs.YtohodehmidbmlaaDoor
