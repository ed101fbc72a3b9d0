/-
  The law FnCuts.
-/
import Derived.Test.YtjdncobdecdhmaaDrawB
import Derived.Test.YtjdncobdecdhmaaCutsP
import Derived.Test.YtjdncobdecdhmaaPartsW
import Derived.Test.YtjdncobdecdhmaaSort2
import Derived.Test.YtjdncobdecdhmaaInts2
namespace Go.Proofs.Ytjdncobdecdhmaa
open Go.RowKit
set_option maxRecDepth 100000

set_option maxHeartbeats 1000000 in
theorem times_any (A : Option Addr) (n c : Nat) (l : List Int) (x : Int) (w : World) (hl : Ints w A n l) (hn : n ≤ 2097152) :
    Calls Try.prog 42 #[.slice A n c, .int .i64 x] w fun e w' => e = .returned (.int .i64 (l.count x)) ∧ w = w' := by
  have HL := hide hl
  clear hl
  go_enter Try.func42, Try.ntmps42
  go_wp2
  go_loopw [5, 6] (fun v i wr => ∃ k C : Nat, k ≤ n ∧ C ≤ k ∧ i = .int .i64 k ∧ v = .int .i64 C ∧ Hid (C = (l.take k).count x) ∧ wr = w) (fun _ i _ => n - (intOf i).toNat)
  case atStart => exact ⟨0, 0, Nat.zero_le _, Nat.zero_le _, rfl, rfl, hide (by simp), rfl⟩
  case round =>
    obtain ⟨k, C, hk, hCk, rfl, rfl, hC, rfl⟩ := hrel
    by_cases hlt : k < n
    · obtain ⟨ad, rfl, hub, hcell⟩ := HL.out.at_ hlt
      have hst := hide (count_step l x k (by have := HL.out.1; omega))
      generalize hy : l[k]?.getD 0 = y at *
      clear hy
      by_cases he : y = x
      · have HC := hide (show C + 1 = (l.take (k + 1)).count x by rw [hst.out, if_pos he, hC.out])
        have hb : (y == x) = true := beq_iff_eq.2 he
        clear he
        go_wp2
        go_roundw
        case rel => exact ⟨k + 1, C + 1, by omega, by omega, by go_num, by go_num, HC, trivial⟩
        case measure => simp [intOf]; omega
      · have HC := hide (show C = (l.take (k + 1)).count x by rw [hst.out, if_neg he, hC.out]; rfl)
        have hb : (y == x) = false := beq_eq_false_iff_ne.2 he
        clear he
        go_wp2
        go_roundw
        case rel => exact ⟨k + 1, C, by omega, by omega, by go_num, rfl, HC, trivial⟩
        case measure => simp [intOf]; omega
    · obtain rfl : n = k := by omega
      have HC := hide (show C = l.count x by rw [hC.out, List.take_of_length_le (by have := HL.out.1; omega)])
      go_wp2
      go_ret
      exact ⟨ret_int (by rw [HC.out]), rfl⟩

set_option maxHeartbeats 16000000 in
theorem fnCuts_walk (w : World) (A : Option Addr) (n c : Nat) (l : List UInt8) (_ : n ≤ maxLen) (hl : Bytes w A n l) :
    Calls Try.prog 8 #[.slice A n c] w fun e w' => e = .returned (.bool true) ∧ Below w.heap.size w w' := by
  have HL := hide hl
  clear hl
  by_cases hbig : (1048576 : Int) < n
  · have hd : decide (1048576 < (n : Int)) = true := decide_eq_true hbig
    go_enter Try.func8, Try.ntmps8
    go_wp2_with (fail)
    refine (big_any A n c _).mono ?_
    rintro e w1 ⟨rfl, rfl⟩
    rw [hd]
    go_wp2
    go_ret
    exact ⟨rfl, Below.refl _ _⟩
  · have hd : decide (1048576 < (n : Int)) = false := decide_eq_false hbig
    have hn2 : n ≤ 1048576 := by omega
    go_enter Try.func8, Try.ntmps8
    go_wp2_with (fail)
    refine (big_any A n c _).mono ?_
    rintro e w1 ⟨rfl, rfl⟩
    rw [hd]
    clear hd hbig
    go_wp2_with (fail)
    refine (drawEqualCuts_any A n c l _ HL.out hn2).mono ?_
    rintro e w2 ⟨x, y, z, rfl, hz0, hz1, hB⟩
    go_wp2_with (fail)
    refine (implEqualCuts_any x y z _).mono ?_
    rintro e w3 ⟨D1, N1, m1, rfl, hown1, hN1, hb⟩
    replace hB := bthen hB hb
    clear hb
    have HLW := hide (eqCuts_law x y z)
    have HN1 := hide hN1
    have HI1 := hide (OwnI.ints hown1)
    clear hown1 hN1
    go_wp2_with (fail)
    refine (specEqualCuts_any x y z _).mono ?_
    rintro e w4 ⟨D2, N2, m2, rfl, hown2, hN2, hb⟩
    replace hB := bthen hB hb
    have hN1 := HN1.out
    obtain rfl : N1 = N2 := by omega
    have HE := hide (HI1.out.keep hb)
    have hLW := HLW.out
    clear hb hown2 hN2 HI1 HLW HN1
    generalize eqCuts x y z = E at *
    rcases hLW with h0 | ⟨h1, h2⟩
    case' inl =>
      obtain rfl : N1 = 0 := by rw [hN1, h0]; rfl
      clear HE h0 hN1
      go_wp2_with (fail)
      obtain ⟨w5, hw5⟩ : ∃ v, v = w4 := ⟨_, rfl⟩
      subst hw5
    case' inr =>
      have hlen := inB_iff.1 (show inB E.length 1 3 = true by unfold cutsB at h1; rw [Bool.and_eq_true] at h1; exact h1.1)
      have hz2 : 2 ≤ z ∧ z ≤ 4 := by omega
      obtain ⟨hz3, hz4⟩ := hz2
      have hne2 : ((N1 : Int) != z - 1) = false := by rw [bne_eq_false_iff_eq]; omega
      have hN3 : 1 ≤ N1 ∧ N1 ≤ 3 := by omega
      have H1 := hide h1
      clear h1 h2 hlen hN1
      obtain ⟨hNa, hNb⟩ := hN3
      have hne : ((N1 : Int) != N1) = false := by simp
      go_wp2_with (fail)
      refine (implCutsOk_any D1 N1 m1 E _ HE.out (by omega)).mono ?_
      rintro e w5 ⟨rfl, hb⟩
      replace hB := bthen hB hb
      rw [H1.out]
      clear hb HE H1
      go_wp2_with (fail)
    all_goals
      refine (drawQuantileCuts_any A n c l _ (HL.out.keep hB) hn2).mono ?_
      rintro e w6 ⟨D, N, M, L, z2, rfl, hI, hN, hz20, hz21, hb⟩
      replace hB := bthen hB hb
      clear hb
      have HI := hide hI
      clear hI
      go_wp2_with (fail)
      refine (implQuant_any D N M L z2 _ HI.out (by omega)).mono ?_
      rintro e w7 ⟨Dq, nq, mq, rfl, oq, hnq, hb⟩
      replace hB := bthen hB hb
      replace HI := hide (HI.out.keep hb)
      have HIq := hide (OwnI.ints oq)
      have HLQ := hide (qCuts_law L z2)
      have HNQ := hide hnq
      clear hb oq hnq
      go_wp2_with (fail)
      refine (specQuant_any D N M L z2 _ HI.out (by omega)).mono ?_
      rintro e w8 ⟨Du, nu, mu, rfl, ou, hnu, hb⟩
      replace hB := bthen hB hb
      replace HI := hide (HI.out.keep hb)
      have hnq := HNQ.out
      have hLQ := HLQ.out
      obtain rfl : nq = nu := by omega
      have HQ := hide (HIq.out.keep hb)
      clear hb ou hnu HIq HLQ HNQ
      generalize qCuts L z2 = Q at *
      have hnq3 : nq ≤ 3 := by
        rcases hLQ with h0 | ⟨h1, h2⟩
        · rw [hnq, h0]; exact Nat.zero_le _
        · have := inB_iff.1 (show inB Q.length 1 3 = true by unfold cutsB at h1; rw [Bool.and_eq_true] at h1; exact h1.1)
          omega
      have HMX := hide (show binI Q 9223372036854775807 = nq by
        rw [hnq]
        refine cuts_max ?_
        rcases hLQ with h | h
        · exact .inl h
        · exact .inr h.1)
      rcases hLQ with h0 | ⟨h1, h2⟩
      case' inl =>
        obtain rfl : nq = 0 := by rw [hnq, h0]; rfl
        clear h0 hnq
        go_wp2_with (fail)
        obtain ⟨w9, hw9⟩ : ∃ v, v = w8 := ⟨_, rfl⟩
        subst hw9
      case' inr =>
        have hlen := inB_iff.1 (show inB Q.length 1 3 = true by unfold cutsB at h1; rw [Bool.and_eq_true] at h1; exact h1.1)
        have hz22 : 2 ≤ z2 ∧ z2 - 1 ≥ nq := by omega
        obtain ⟨hz23, hz24⟩ := hz22
        have hnq1 : 1 ≤ nq := by omega
        have H1 := hide h1
        clear h1 h2 hlen hnq
        have hne : ((nq : Int) != nq) = false := by simp
        go_wp2_with (fail)
        refine (implCutsOk_any Dq nq mq Q _ HQ.out (by omega)).mono ?_
        rintro e w9 ⟨rfl, hb⟩
        replace hB := bthen hB hb
        replace HI := hide (HI.out.keep hb)
        replace HQ := hide (HQ.out.keep hb)
        rw [H1.out]
        clear hb H1
        go_wp2_with (fail)
      all_goals
        refine (implSorted_any D N M L _ HI.out (by omega)).mono ?_
        rintro e w10 ⟨Ds, ns, ms, rfl, os, hns, hb⟩
        replace hB := bthen hB hb
        replace HI := hide (HI.out.keep hb)
        replace HQ := hide (HQ.out.keep hb)
        have HSo := hide (OwnI.ints os)
        have hup := hide (sortI_up L)
        have hcnt := hide (fun x => (sortI_perm L).count_eq x)
        obtain rfl : N = ns := by rw [hns, sortI_len]; exact HI.out.1
        have hNN : N = N := rfl
        clear hNN
        clear hb os hns
        generalize sortI L = S at *
        have hne2 : ((N : Int) != N) = false := by simp
        go_wp2
        clear hne2
        go_loopw [11] (fun i wr => ∃ K : Nat, K ≤ N ∧ i = .int .i64 K ∧ Below w10.heap.size w10 wr) (fun i _ => N - (intOf i).toNat)
        case atStart => exact ⟨0, Nat.zero_le _, rfl, Below.refl _ _⟩
        case round =>
          obtain ⟨K, hK, rfl, hbel⟩ := hrel
          have HSr := hide (HSo.out.keep hbel)
          have HIr := hide (HI.out.keep hbel)
          have HQr := hide (HQ.out.keep hbel)
          have HBr := hide (bthen hB hbel)
          by_cases hlt : K < N
          · have hN2 : N ≤ 2097152 := by omega
            obtain ⟨ad, rfl, hub, hcell⟩ := HSr.out.at_ hlt
            have hi0 : (0 : Int) ≤ K := by omega
            have hi1 : (K : Int) < N := by omega
            have hSl := hide (show N = S.length from HSo.out.1)
            obtain ⟨C, hC⟩ : ∃ C, C = L.count (S[K]?.getD 0) := ⟨_, rfl⟩
            have hC2 := hide (show ∀ y : Int, y = S[K]?.getD 0 → L.count y = C from fun y hy => by rw [hy, hC])
            have hC1 := hide (show ∀ y : Int, y = S[K]?.getD 0 → S.count y = C from fun y hy => by rw [hy, hC, hcnt.out])
            clear hC
            by_cases h0 : 0 < K
            · obtain ⟨ad', e1, -, hcell0⟩ := HSr.out.at_ (k := K - 1) (by omega)
              obtain rfl := Option.some.inj e1
              have hXY := up_at hup.out h0 (by have := hSl.out; omega)
              obtain ⟨X, hX⟩ : ∃ X, X = S[K]?.getD 0 := ⟨_, rfl⟩
              obtain ⟨Y, hY⟩ : ∃ Y, Y = S[K - 1]?.getD 0 := ⟨_, rfl⟩
              rw [← hX] at hcell hXY hC1 hC2
              rw [← hY] at hcell0 hXY
              clear hX hY
              have hBB := binI_mono Q hXY
              have hBX2 : binI Q X ≤ 3 := by
                have := binI_le Q X
                have := HQ.out.1
                omega
              have HCX := hide (show L.count X = C from hC2.out X rfl)
              have HSX := hide (show S.count X = C from hC1.out X rfl)
              clear hC1 hC2 e1
              have hd1 : decide (X < Y) = false := decide_eq_false (by omega)
              have hd2 : decide ((binI Q X : Int) < (binI Q Y : Int)) = false := decide_eq_false (by omega)
              have hd3 : decide (binI Q X < binI Q Y) = false := decide_eq_false (by omega)
              have h1 : 1 ≤ K := h0
              go_wp2
              go_quiet ((go_at_call 41; exact (implBinOf_any Dq _ mq Q _ _ (HQr.out.keep (below_drewN (Below.refl _ _) _)) (by omega)).mono fun _ _ h => ⟨h.1, _, h.2.symm⟩))
              go_wp2
              clear hd1 hd2 hd3 hcell0 hBB hBX2 hXY
              have hne3 : ((C : Int) != (C : Int)) = false := by simp
              go_quiet (first
                | (go_at_call 42; ((with_reducible refine Calls.mono (times_any (some ad) N ms S X _ (HSr.out.keep (below_drewN (Below.refl _ _) _)) hN2) ?_)); exact fun _ _ h => ⟨h.1.trans (ret_int (by rw [HSX.out])), _, h.2.symm⟩)
                | (go_at_call 42; ((with_reducible refine Calls.mono (times_any D N M L X _ (HIr.out.keep (below_drewN (Below.refl _ _) _)) hN2) ?_)); exact fun _ _ h => ⟨h.1.trans (ret_int (by rw [HCX.out])), _, h.2.symm⟩))
              go_wp2
              go_roundw
              case rel => exact ⟨K + 1, by omega, by go_num, by first | exact below_drewN hbel _ | exact below_drewN (below_drewN hbel _) _⟩
              case measure => simp [intOf]; omega
            · obtain rfl : K = 0 := by omega
              obtain ⟨X, hX⟩ : ∃ X, X = S[0]?.getD 0 := ⟨_, rfl⟩
              rw [← hX] at hcell hC1 hC2
              have hcell0 := hcell
              rw [show ad.add 0 = ad by simp [Addr.add]] at hcell0
              have hN0 : 0 < N := hlt
              clear hX
              have HCX := hide (show L.count X = C from hC2.out X rfl)
              have HSX := hide (show S.count X = C from hC1.out X rfl)
              clear hC1 hC2
              go_wp2
              go_quiet (fail)
              go_wp2
              have hne3 : ((C : Int) != (C : Int)) = false := by simp
              go_quiet (first
                | (go_at_call 42; ((with_reducible refine Calls.mono (times_any (some ad) N ms S X _ (HSr.out.keep (below_drewN (Below.refl _ _) _)) hN2) ?_)); exact fun _ _ h => ⟨h.1.trans (ret_int (by rw [HSX.out])), _, h.2.symm⟩)
                | (go_at_call 42; ((with_reducible refine Calls.mono (times_any D N M L X _ (HIr.out.keep (below_drewN (Below.refl _ _) _)) hN2) ?_)); exact fun _ _ h => ⟨h.1.trans (ret_int (by rw [HCX.out])), _, h.2.symm⟩))
              go_wp2
              go_roundw
              case rel => exact ⟨1, by omega, rfl, by first | exact below_drewN hbel _ | exact below_drewN (below_drewN hbel _) _⟩
              case measure => simp [intOf]; omega
          · obtain rfl : N = K := by omega
            go_wp2_with (fail)
            refine (implBinOf_any Dq _ mq Q _ _ HQr.out (by omega)).mono ?_
            rintro e w12 ⟨rfl, rfl⟩
            rw [HMX.out]
            go_wp2
            go_ret
            exact ⟨rfl, HBr.out⟩
end Go.Proofs.Ytjdncobdecdhmaa
