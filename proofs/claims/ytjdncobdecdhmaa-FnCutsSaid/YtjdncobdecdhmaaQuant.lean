/-
  Contracts: cuts by quantiles.
-/
import Derived.Test.YtjdncobdecdhmaaLawR
import Derived.Test.YtjdncobdecdhmaaCuts
namespace Go.Proofs.Ytjdncobdecdhmaa
open Go.RowKit
set_option maxRecDepth 100000

def qOk (l : List Int) (k : Int) : Bool := inB k 2 4 && (inB l.length 1 64 && l.all fun x => inB x (-9999) 9998)
/-- What the loop holds behind j rounds. -/
def qTo (S : List Int) (k : Int) : Nat → List Int
  | 0 => []
  | j + 1 => if (qTo S k j).length = 0 ∨ (qTo S k j)[(qTo S k j).length - 1]?.getD 0 < S[((S.length : Int) * (1 + (j : Int)) / k).toNat]?.getD 0 then qTo S k j ++ [S[((S.length : Int) * (1 + (j : Int)) / k).toNat]?.getD 0] else qTo S k j
def qCuts (l : List Int) (k : Int) : List Int := if qOk l k = true then qTo (sortI l) k (k.toNat - 1) else []
theorem qTo_len (S : List Int) (k : Int) : ∀ j, (qTo S k j).length ≤ j
  | 0 => Nat.le_refl _
  | j + 1 => by
    have := qTo_len S k j
    unfold qTo
    split
    · simp; omega
    · omega
theorem qCuts_len (l : List Int) (k : Int) : (qCuts l k).length ≤ 3 := by
  unfold qCuts
  split
  · rename_i h
    have h1 := qTo_len (sortI l) k (k.toNat - 1)
    simp only [qOk, Bool.and_eq_true, inB_iff] at h
    omega
  · simp
theorem q_bd {n i k : Int} (hn : 1 ≤ n) (hn2 : n ≤ 64) (hi : 0 ≤ i) (hk : k ≤ 4) (hik : i < k) : 0 ≤ n * i ∧ n * i ≤ 256 ∧ 0 ≤ n * i / k ∧ n * i / k < n := by
  have h1 : 0 ≤ n * i := Int.mul_nonneg (by omega) hi
  have h2 : n * i ≤ 64 * 4 := Int.mul_le_mul hn2 (by omega) hi (by omega)
  have h3 : 0 ≤ n * i / k := Int.ediv_nonneg h1 (by omega)
  have h4 : n * i / k < n := Int.ediv_lt_of_lt_mul (by omega) (by
    have : n * i < n * k := Int.mul_lt_mul_of_pos_left hik (by omega)
    omega)
  exact ⟨h1, h2, h3, h4⟩
theorem apart_keep {w : World} {v v' : Value} {u : Option Nat} (h : u = none ∨ u ≠ v.ownBlock) (hu : ∀ g, u = some g → g < w.heap.size) (hq : ∀ g, v'.ownBlock = some g → v.ownBlock = some g ∨ w.heap.size ≤ g) : u = none ∨ u ≠ v'.ownBlock := by
  rcases u with _ | u
  · exact .inl rfl
  · refine .inr fun e => ?_
    rcases hq u e.symm with h1 | h1
    · rcases h with h | h
      · cases h
      · exact h h1.symm
    · have := hu u rfl
      omega
theorem own_mono {w : World} {B B' : Nat} {e : TypeId} {sz n : Nat} {v : Value} {xs : List Value} (h : w.ownsRow B e sz v n xs) (hB : B' ≤ B) : w.ownsRow B' e sz v n xs := by
  obtain ⟨h1, h2⟩ := h
  refine ⟨h1, ?_⟩
  rcases h2 with h2 | ⟨g, cap, cur, e, hb, rest⟩
  · exact .inl h2
  · exact .inr ⟨g, cap, cur, e, Nat.le_trans hB hb, rest⟩
theorem quant1_any (x : Int) (w : World) : Calls Try.prog 67 #[.int .i64 x] w fun e w' => e = .returned (.bool (!inB x (-9999) 9998)) ∧ w = w' := by
  go_enter Try.func67, Try.ntmps67
  go_wp2_with (go_at_call 68; refine (isCut_any _ _).mono ?_; rintro e w' ⟨rfl, rfl⟩)
  go_ret
  exact ⟨rfl, rfl⟩
theorem any_not_all' {l : List Int} {p : Int → Bool} : (!l.any fun x => !p x) = l.all p := by
  rw [List.any_eq_not_all_not]; simp
set_option maxHeartbeats 4000000 in
theorem implQuant_any (A : Option Addr) (n c : Nat) (l : List Int) (k : Int) (w : World) (hl : Ints w A n l) (hn : n ≤ 2097152) :
    Calls Try.prog 28 #[.slice A n c, .int .i64 k] w fun e w' => ∃ D n' m, e = .returned (.slice D n' m) ∧ OwnI w.heap.size w' (.slice D n' m) (qCuts l k) ∧ n' = (qCuts l k).length ∧ Below w.heap.size w w' := by
  have HL := hide hl
  have hlen := hide hl.1
  clear hl
  have no : ∀ (e : Ending) (w' : World), e = .returned (.slice none 0 0) → w' = w → qOk l k = false → ∃ D n' m, e = .returned (.slice D n' m) ∧ OwnI w.heap.size w' (.slice D n' m) (qCuts l k) ∧ n' = (qCuts l k).length ∧ Below w.heap.size w w' := by
    intro e w' he hw hq
    have : qCuts l k = [] := by simp [qCuts, hq]
    rw [this]
    subst hw
    exact ⟨_, _, _, he, World.ownsRow_nil _ _ _ _, rfl, Below.refl _ _⟩
  have no := hide no
  cases h1 : inB k 2 4
  · have hq := hide (show qOk l k = false by rw [qOk, h1]; rfl)
    go_enter Try.func28, Try.ntmps28
    go_wp2_with (first | (go_at_call 65; refine (within_any _ _ _ _).mono ?_; rintro e w' ⟨rfl, rfl⟩))
    go_ret
    exact no.out _ _ rfl rfl hq.out
  cases h2 : inB (n : Int) 1 64
  · have hq := hide (show qOk l k = false by rw [qOk, h1, ← hlen.out, h2]; rfl)
    go_enter Try.func28, Try.ntmps28
    go_wp2_with (first | (go_at_call 65; refine (within_any _ _ _ _).mono ?_; rintro e w' ⟨rfl, rfl⟩))
    go_ret
    exact no.out _ _ rfl rfl hq.out
  obtain ⟨k0, k1⟩ := inB_iff.1 h1
  obtain ⟨n0, n1⟩ := inB_iff.1 h2
  cases h3 : l.any fun x => !inB x (-9999) 9998
  case true =>
    have hq := hide (show qOk l k = false by
      have : (l.all fun x => inB x (-9999) 9998) = false := by rw [← any_not_all', h3]; rfl
      rw [qOk, this]; simp)
    go_enter Try.func28, Try.ntmps28
    go_wp2_with (first | (go_at_call 65; refine (within_any _ _ _ _).mono ?_; rintro e w' ⟨rfl, rfl⟩) | (go_at_call 66; refine (containsFunc_any _ _ Try.call67 quant1_any _ n c l _ HL.out hn).mono ?_; rintro e w' ⟨rfl, rfl⟩; rw [h3]))
    go_ret
    exact no.out _ _ rfl rfl hq.out
  case false =>
    have hq := hide (show qCuts l k = qTo (sortI l) k (k.toNat - 1) by
      have : (l.all fun x => inB x (-9999) 9998) = true := by rw [← any_not_all', h3]; rfl
      rw [qCuts, qOk, h1, ← hlen.out, h2, this]; rfl)
    obtain ⟨S, hS⟩ : ∃ S, S = sortI l := ⟨_, rfl⟩
    have hSl := hide (show S.length = n by rw [hS, sortI_len, hlen.out])
    have HS := hide hS
    rw [← hS] at hq
    clear hS
    go_enter Try.func28, Try.ntmps28
    go_wp2_with (first | (go_at_call 65; refine (within_any _ _ _ _).mono ?_; rintro e w' ⟨rfl, rfl⟩) | (go_at_call 66; refine (containsFunc_any _ _ Try.call67 quant1_any _ n c l _ HL.out hn).mono ?_; rintro e w' ⟨rfl, rfl⟩; rw [h3]))
    refine (implSorted_any _ n c l _ HL.out hn).mono ?_
    rintro e w1 ⟨U, nU, mU, rfl, oU, qU, bU⟩
    unfold OwnI at oU
    rw [← HS.out, hSl.out] at oU qU
    obtain rfl : n = nU := qU.symm
    have hal : Below w1.heap.size w1 (w1.alloc (.cells #[] 3)) := (Below.refl _ _).alloc (Nat.le_refl _) _
    have hO := own_empty w1 w.heap.size 3 1 bU.size
    have hap := hide (own_apart oU (own_empty w1 w1.heap.size 3 1 (Nat.le_refl _)) (Nat.le_refl _))
    have hU := own_below oU hal
    have hB := bthen bU hal
    clear bU oU no hal
    go_wp2
    go_loopw [6, 7] (fun v i wr => ∃ (j : Nat) (o : List Int), 1 + (j : Int) ≤ k ∧ i = .int .i64 (1 + j) ∧ Hid (o = qTo S k j) ∧ (∃ D m, v = .slice D o.length m) ∧ o.length ≤ j ∧ wr.ownsRow w.heap.size 3 1 v o.length (o.map (Value.int .i64)) ∧ wr.ownsRow w.heap.size 3 1 (.slice U n mU) n (S.map (Value.int .i64)) ∧ Hid ((Value.slice U n mU).ownBlock = none ∨ (Value.slice U n mU).ownBlock ≠ v.ownBlock) ∧ Below w.heap.size w wr) (fun _ i _ => (k - intOf i).toNat)
    case atStart => exact ⟨0, [], by omega, by simp, rfl, ⟨_, _, rfl⟩, by simp, hO, hU, hap, hB⟩
    case round =>
      clear hO hU hap hB
      obtain ⟨j, o, hj, rfl, ho, ⟨D, m, rfl⟩, hol, hO, hU, hap, hB⟩ := hrel
      have hsz := hB.size
      by_cases hlt : 1 + (j : Int) < k
      · obtain ⟨e1, e2, e3, e4⟩ := q_bd (n := n) (i := 1 + j) (k := k) (by omega) (by omega) (by omega) (by omega) hlt
        obtain ⟨I, hI⟩ : ∃ I, I = ((n : Int) * (1 + (j : Int)) / k).toNat := ⟨_, rfl⟩
        have hIn : I < n := by omega
        have hI' : (n : Int) * (1 + (j : Int)) / k = I := by omega
        obtain ⟨au, rfl, hab, hcell⟩ := (ints_of hU).at_ hIn
        obtain ⟨x, hx⟩ : ∃ x, x = S[I]?.getD 0 := ⟨_, rfl⟩
        rw [← hx] at hcell
        have hSn := hSl.out
        have hx' := hide (show x = S[((S.length : Int) * (1 + (j : Int)) / k).toNat]?.getD 0 by rw [hSn, ← hI]; exact hx)
        clear hI hx hSn
        by_cases h0 : o.length = 0
        · have hst := hide (show o ++ [x] = qTo S k (j + 1) by rw [qTo, ← ho.out, if_pos (.inl h0), hx'.out])
          have hb0 : ((o.length : Int) == 0) = true := by simp [h0]
          have hoz := hide h0
          clear h0
          go_wp2_with (at_builtin; go_must (refine wpList_append_one wr rfl _ _ 28 rfl w.heap.size 3 (.int .i64 0) 1 8 Try.underlying28 infoI rfl (by decide) _ o.length _ [.int .i64 x] rfl hO _ rfl rfl (by simp [Value.oneCell']) rfl (by unfold maxLen; omega) (by omega) hsz ?_); intro v' w1 hO1 hb1 hq1 hg1)
          replace hg1 : wr.grownBy w1 (Value.slice D o.length m).ownBlock := hg1
          replace hq1 : ∀ g, v'.ownBlock = some g → (Value.slice D o.length m).ownBlock = some g ∨ wr.heap.size ≤ g := hq1
          have hU1 := hU.kept hg1 hap.out
          have hap1 := hide (apart_keep hap.out (fun g hg => (hU.lt g hg).2) hq1)
          have hO2 : w1.ownsRow w.heap.size 3 1 v' (o ++ [x]).length ((o ++ [x]).map (Value.int .i64)) := by simpa using hO1
          clear hg1 hq1 hO1
          go_roundw
          case rel => exact ⟨j + 1, _, by omega, by go_num, hst, own_shape hO2, by simp; omega, hO2, hU1, hap1, hB.trans hb1⟩
          case measure => simp [intOf]; omega
        · obtain ⟨ao, rfl, hob, hocell⟩ := (ints_of hO).at_ (k := o.length - 1) (by omega)
          obtain ⟨y, hy⟩ : ∃ y, y = o[o.length - 1]?.getD 0 := ⟨_, rfl⟩
          rw [← hy] at hocell
          have hb0 : ((o.length : Int) == 0) = false := beq_eq_false_iff_ne.2 (by omega)
          by_cases hxy : y < x
          · have hst := hide (show o ++ [x] = qTo S k (j + 1) by rw [qTo, ← ho.out, if_pos (.inr (by rw [← hy, ← hx'.out]; exact hxy)), hx'.out])
            have hbx : decide (y < x) = true := by simpa using hxy
            clear hy
            go_wp2_with (at_builtin; go_must (refine wpList_append_one wr rfl _ _ 28 rfl w.heap.size 3 (.int .i64 0) 1 8 Try.underlying28 infoI rfl (by decide) _ o.length _ [.int .i64 x] rfl hO _ rfl rfl (by simp [Value.oneCell']) rfl (by unfold maxLen; omega) (by omega) hsz ?_); intro v' w1 hO1 hb1 hq1 hg1)
            replace hg1 : wr.grownBy w1 (Value.slice (some ao) o.length m).ownBlock := hg1
            replace hq1 : ∀ g, v'.ownBlock = some g → (Value.slice (some ao) o.length m).ownBlock = some g ∨ wr.heap.size ≤ g := hq1
            have hU1 := hU.kept hg1 hap.out
            have hap1 := hide (apart_keep hap.out (fun g hg => (hU.lt g hg).2) hq1)
            have hO2 : w1.ownsRow w.heap.size 3 1 v' (o ++ [x]).length ((o ++ [x]).map (Value.int .i64)) := by simpa using hO1
            clear hg1 hq1 hO1
            go_roundw
            case rel => exact ⟨j + 1, _, by omega, by go_num, hst, own_shape hO2, by simp; omega, hO2, hU1, hap1, hB.trans hb1⟩
            case measure => simp [intOf]; omega
          · have hst := hide (show o = qTo S k (j + 1) by rw [qTo, ← ho.out, if_neg (fun h => h.elim h0 (fun h => hxy (by rw [hy, hx'.out]; exact h)))])
            have hbx : decide (y < x) = false := by simpa using hxy
            clear hy
            go_wp2
            go_roundw
            case rel => exact ⟨j + 1, o, by omega, by go_num, hst, ⟨_, _, rfl⟩, by omega, hO, hU, hap, hB⟩
            case measure => simp [intOf]; omega
      · obtain rfl : k = 1 + (j : Int) := by omega
        have hfin := hide (show qCuts l (1 + (j : Int)) = o by rw [hq.out, show (1 + (j : Int)).toNat - 1 = j by omega, ho.out])
        go_wp2
        go_ret
        refine ⟨_, _, _, rfl, by rw [hfin.out]; exact hO, by rw [hfin.out], hB⟩

set_option maxHeartbeats 4000000 in
theorem specQuant_any (A : Option Addr) (n c : Nat) (l : List Int) (k : Int) (w : World) (hl : Ints w A n l) (hn : n ≤ 2097152) :
    Calls Try.prog 27 #[.slice A n c, .int .i64 k] w fun e w' => ∃ D n' m, e = .returned (.slice D n' m) ∧ OwnI w.heap.size w' (.slice D n' m) (qCuts l k) ∧ n' = (qCuts l k).length ∧ Below w.heap.size w w' := by
  have HL := hide hl
  have hlen := hide hl.1
  clear hl
  have hown0 := own_empty w w.heap.size 3 1 (Nat.le_refl _)
  have hal : Below w.heap.size w (w.alloc (.cells #[] 3)) := (Below.refl _ _).alloc (Nat.le_refl _) _
  have HLa := hide (HL.out.keep hal)
  have no : ∀ (e : Ending) (w' : World), e = .returned (.slice (some ⟨w.heap.size, 0, none⟩) 0 0) → w' = (w.alloc (.cells #[] 3)) → qOk l k = false → ∃ D n' m, e = .returned (.slice D n' m) ∧ OwnI w.heap.size w' (.slice D n' m) (qCuts l k) ∧ n' = (qCuts l k).length ∧ Below w.heap.size w w' := by
    intro e w' he hw hq
    have : qCuts l k = [] := by simp [qCuts, hq]
    rw [this]
    subst hw
    exact ⟨_, _, _, he, hown0, rfl, hal⟩
  have no := hide no
  cases h1 : inB k 2 4
  · have hq := hide (show qOk l k = false by rw [qOk, h1]; rfl)
    go_enter Try.func27, Try.ntmps27
    go_wp2_with (first | (go_at_call 64; refine (l1In_any _ _ _ _).mono ?_; rintro e w' ⟨rfl, rfl⟩))
    go_ret
    exact no.out _ _ rfl rfl hq.out
  cases h2 : inB (n : Int) 1 64
  · have hq := hide (show qOk l k = false by rw [qOk, h1, ← hlen.out, h2]; rfl)
    go_enter Try.func27, Try.ntmps27
    go_wp2_with (first | (go_at_call 64; refine (l1In_any _ _ _ _).mono ?_; rintro e w' ⟨rfl, rfl⟩))
    go_ret
    exact no.out _ _ rfl rfl hq.out
  obtain ⟨k0, k1⟩ := inB_iff.1 h1
  obtain ⟨n0, n1⟩ := inB_iff.1 h2
  go_enter Try.func27, Try.ntmps27
  go_wp2_with (first | (go_at_call 64; refine (l1In_any _ _ _ _).mono ?_; rintro e w' ⟨rfl, rfl⟩))
  go_loop [6] (fun i => ∃ j : Nat, j ≤ n ∧ i = .int .i64 j ∧ Hid ((l.take j).all (fun x => inB x (-9999) 9998) = true)) (fun i => n - (intOf i).toNat)
  case atStart => exact ⟨0, Nat.zero_le _, rfl, by show _ = _; simp⟩
  case round =>
    obtain ⟨j, hj, rfl, hall⟩ := hrel
    by_cases hlt : j < n
    · obtain ⟨ad, rfl, _, hcell⟩ := (HLa.out).at_ hlt
      have hjl := hide (show j < l.length by have := hlen.out; omega)
      obtain ⟨x, hx⟩ : ∃ x, x = l[j]?.getD 0 := ⟨_, rfl⟩
      rw [← hx] at hcell
      have HX := hide hx
      clear hx
      cases hb : inB x (-9999) 9998
      · have hq := hide (show qOk l k = false by rw [qOk, all_badD (p := fun x => inB x (-9999) 9998) 0 hjl.out (by show inB _ _ _ = false; rw [← HX.out]; exact hb)]; simp)
        have no2 : ∀ (e : Ending) (w' : World), e = .returned (.slice (some ⟨w.heap.size + 1, 0, none⟩) 0 0) → w' = ((w.alloc (.cells #[] 3)).alloc (.cells #[] 3)) → ∃ D n' m, e = .returned (.slice D n' m) ∧ OwnI w.heap.size w' (.slice D n' m) (qCuts l k) ∧ n' = (qCuts l k).length ∧ Below w.heap.size w w' := by
          intro e w' he hw
          have : qCuts l k = [] := by simp [qCuts, hq.out]
          rw [this]
          subst hw
          refine ⟨_, _, _, he, ?_, rfl, hal.alloc (by simp) _⟩
          have := own_empty (w.alloc (.cells #[] 3)) w.heap.size 3 1 (by simp)
          show World.ownsRow _ _ 3 1 _ 0 []
          simpa using this
        have no2 := hide no2
        go_wp2_with (first | (go_at_call 64; refine (l1In_any _ _ _ _).mono ?_; rintro e w' ⟨rfl, rfl⟩))
        go_ret
        exact no2.out _ _ rfl rfl
      · have hn' := hide (all_stepD (p := fun x => inB x (-9999) 9998) 0 hjl.out hall.out (by show inB _ _ _ = true; rw [← HX.out]; exact hb))
        clear hall
        go_wp2_with (first | (go_at_call 64; refine (l1In_any _ _ _ _).mono ?_; rintro e w' ⟨rfl, rfl⟩))
        go_round
        case rel => exact ⟨j + 1, by omega, by go_num, hn'⟩
        case measure => simp [intOf]; omega
    · have hall' := hall.out
      rw [List.take_of_length_le (by have := hlen.out; omega)] at hall'
      have hq := hide (show qCuts l k = qTo (sortI l) k (k.toNat - 1) by rw [qCuts, qOk, h1, ← hlen.out, h2, hall']; rfl)
      obtain ⟨S, hS⟩ : ∃ S, S = sortI l := ⟨_, rfl⟩
      have hSl := hide (show S.length = n by rw [hS, sortI_len, hlen.out])
      have HS := hide hS
      rw [← hS] at hq
      clear hS hall hall'
      go_wp2_with (fail)
      refine (specSorted_any _ n c l _ HLa.out hn).mono ?_
      rintro e w1 ⟨U, nU, mU, rfl, oU, qU, bU⟩
      unfold OwnI at oU
      rw [← HS.out, hSl.out] at oU qU
      obtain rfl : n = nU := qU.symm
      have hO := own_below hown0 bU
      have hap := hide (apart_flip (own_apart hown0 oU (Nat.le_refl _)))
      have hU : w1.ownsRow w.heap.size 3 1 (.slice U n mU) n (S.map (Value.int .i64)) := own_mono oU (by simp)
      have hB := bthen hal bU
      clear bU oU no hown0 hal
      go_wp2
      go_loopw [5, 8] (fun v i wr => ∃ (j : Nat) (o : List Int), 1 + (j : Int) ≤ k ∧ i = .int .i64 (1 + j) ∧ Hid (o = qTo S k j) ∧ (∃ D m, v = .slice D o.length m) ∧ o.length ≤ j ∧ wr.ownsRow w.heap.size 3 1 v o.length (o.map (Value.int .i64)) ∧ wr.ownsRow w.heap.size 3 1 (.slice U n mU) n (S.map (Value.int .i64)) ∧ Hid ((Value.slice U n mU).ownBlock = none ∨ (Value.slice U n mU).ownBlock ≠ v.ownBlock) ∧ Below w.heap.size w wr) (fun _ i _ => (k - intOf i).toNat)
      case atStart => exact ⟨0, [], by omega, by simp, rfl, ⟨_, _, rfl⟩, by simp, hO, hU, hap, hB⟩
      case round =>
        clear hO hU hap hB
        obtain ⟨j, o, hj, rfl, ho, ⟨D, m, rfl⟩, hol, hO, hU, hap, hB⟩ := hrel
        have hsz := hB.size
        by_cases hlt : 1 + (j : Int) < k
        · obtain ⟨e1, e2, e3, e4⟩ := q_bd (n := n) (i := 1 + j) (k := k) (by omega) (by omega) (by omega) (by omega) hlt
          obtain ⟨I, hI⟩ : ∃ I, I = ((n : Int) * (1 + (j : Int)) / k).toNat := ⟨_, rfl⟩
          have hIn : I < n := by omega
          have hI' : (n : Int) * (1 + (j : Int)) / k = I := by omega
          obtain ⟨au, rfl, hab, hcell⟩ := (ints_of hU).at_ hIn
          obtain ⟨x, hx⟩ : ∃ x, x = S[I]?.getD 0 := ⟨_, rfl⟩
          rw [← hx] at hcell
          have hSn := hSl.out
          have hx' := hide (show x = S[((S.length : Int) * (1 + (j : Int)) / k).toNat]?.getD 0 by rw [hSn, ← hI]; exact hx)
          clear hI hx hSn
          by_cases h0 : o.length = 0
          · have hst := hide (show o ++ [x] = qTo S k (j + 1) by rw [qTo, ← ho.out, if_pos (.inl h0), hx'.out])
            have hb0 : ((o.length : Int) == 0) = true := by simp [h0]
            have hoz := hide h0
            clear h0
            go_wp2_with (at_builtin; go_must (refine wpList_append_one wr rfl _ _ 28 rfl w.heap.size 3 (.int .i64 0) 1 8 Try.underlying28 infoI rfl (by decide) _ o.length _ [.int .i64 x] rfl hO _ rfl rfl (by simp [Value.oneCell']) rfl (by unfold maxLen; omega) (by omega) hsz ?_); intro v' w1 hO1 hb1 hq1 hg1)
            replace hg1 : wr.grownBy w1 (Value.slice D o.length m).ownBlock := hg1
            replace hq1 : ∀ g, v'.ownBlock = some g → (Value.slice D o.length m).ownBlock = some g ∨ wr.heap.size ≤ g := hq1
            have hU1 := hU.kept hg1 hap.out
            have hap1 := hide (apart_keep hap.out (fun g hg => (hU.lt g hg).2) hq1)
            have hO2 : w1.ownsRow w.heap.size 3 1 v' (o ++ [x]).length ((o ++ [x]).map (Value.int .i64)) := by simpa using hO1
            clear hg1 hq1 hO1
            go_roundw
            case rel => exact ⟨j + 1, _, by omega, by go_num, hst, own_shape hO2, by simp; omega, hO2, hU1, hap1, hB.trans hb1⟩
            case measure => simp [intOf]; omega
          · obtain ⟨ao, rfl, hob, hocell⟩ := (ints_of hO).at_ (k := o.length - 1) (by omega)
            obtain ⟨y, hy⟩ : ∃ y, y = o[o.length - 1]?.getD 0 := ⟨_, rfl⟩
            rw [← hy] at hocell
            have hb0 : ((o.length : Int) == 0) = false := beq_eq_false_iff_ne.2 (by omega)
            by_cases hxy : y < x
            · have hst := hide (show o ++ [x] = qTo S k (j + 1) by rw [qTo, ← ho.out, if_pos (.inr (by rw [← hy, ← hx'.out]; exact hxy)), hx'.out])
              have hbx : decide (y < x) = true := by simpa using hxy
              clear hy
              go_wp2_with (at_builtin; go_must (refine wpList_append_one wr rfl _ _ 28 rfl w.heap.size 3 (.int .i64 0) 1 8 Try.underlying28 infoI rfl (by decide) _ o.length _ [.int .i64 x] rfl hO _ rfl rfl (by simp [Value.oneCell']) rfl (by unfold maxLen; omega) (by omega) hsz ?_); intro v' w1 hO1 hb1 hq1 hg1)
              replace hg1 : wr.grownBy w1 (Value.slice (some ao) o.length m).ownBlock := hg1
              replace hq1 : ∀ g, v'.ownBlock = some g → (Value.slice (some ao) o.length m).ownBlock = some g ∨ wr.heap.size ≤ g := hq1
              have hU1 := hU.kept hg1 hap.out
              have hap1 := hide (apart_keep hap.out (fun g hg => (hU.lt g hg).2) hq1)
              have hO2 : w1.ownsRow w.heap.size 3 1 v' (o ++ [x]).length ((o ++ [x]).map (Value.int .i64)) := by simpa using hO1
              clear hg1 hq1 hO1
              go_roundw
              case rel => exact ⟨j + 1, _, by omega, by go_num, hst, own_shape hO2, by simp; omega, hO2, hU1, hap1, hB.trans hb1⟩
              case measure => simp [intOf]; omega
            · have hst := hide (show o = qTo S k (j + 1) by rw [qTo, ← ho.out, if_neg (fun h => h.elim h0 (fun h => hxy (by rw [hy, hx'.out]; exact h)))])
              have hbx : decide (y < x) = false := by simpa using hxy
              clear hy
              go_wp2
              go_roundw
              case rel => exact ⟨j + 1, o, by omega, by go_num, hst, ⟨_, _, rfl⟩, by omega, hO, hU, hap, hB⟩
              case measure => simp [intOf]; omega
        · obtain rfl : k = 1 + (j : Int) := by omega
          have hfin := hide (show qCuts l (1 + (j : Int)) = o by rw [hq.out, show (1 + (j : Int)).toNat - 1 = j by omega, ho.out])
          go_wp2
          go_ret
          refine ⟨_, _, _, rfl, by rw [hfin.out]; exact hO, by rw [hfin.out], hB⟩
end Go.Proofs.Ytjdncobdecdhmaa
