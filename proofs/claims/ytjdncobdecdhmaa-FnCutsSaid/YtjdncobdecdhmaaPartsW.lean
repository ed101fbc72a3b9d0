/-
  The law FnParts.
-/
import Derived.Test.YtjdncobdecdhmaaDrawA
import Derived.Test.YtjdncobdecdhmaaParts
import Derived.Test.YtjdncobdecdhmaaPartsP
namespace Go.Proofs.Ytjdncobdecdhmaa
open Go.RowKit
set_option maxRecDepth 100000

theorem joinP_le {b : UInt8} {l m : List ByteArray} (h : 0 < l.length) : (joinP b l).length ≤ (joinP b (l ++ m)).length := by
  match l, h with
  | y :: t, _ => simp [joinP]
theorem joinP_take {b : UInt8} {l : List ByteArray} {k : Nat} (h0 : 0 < k) (hk : k < l.length) : joinP b (l.take (k + 1)) = joinP b (l.take k) ++ b :: (l[k]?.getD ByteArray.empty).data.toList := by
  have e : l.take (k + 1) = l.take k ++ [l[k]?.getD ByteArray.empty] := by
    rw [List.getElem?_eq_getElem hk, Option.getD_some, List.take_succ_eq_append_getElem hk]
  rw [e, joinP_snoc (by rw [List.length_take]; omega)]
theorem joinP_bound {b : UInt8} {l : List ByteArray} {k N : Nat} (h0 : 0 < k) (h : (joinP b l).length ≤ N) : (joinP b (l.take k)).length ≤ N := by
  rcases Nat.eq_zero_or_pos l.length with e | e
  · rw [List.length_eq_zero_iff] at e; subst e; simpa using h
  · refine Nat.le_trans (joinP_le (m := l.drop k) ?_) (by rwa [List.take_append_drop])
    rw [List.length_take]; omega
theorem joinP_mem {b : UInt8} {l : List ByteArray} {p : ByteArray} (h : p ∈ l) : p.size ≤ (joinP b l).length := by
  obtain ⟨s1, s2, rfl⟩ := List.append_of_mem h
  rw [show s1 ++ p :: s2 = (s1 ++ [p]) ++ s2 by simp]
  refine Nat.le_trans ?_ (joinP_le (by simp))
  have e : p.size = p.data.toList.length := rfl
  rcases s1 with _ | ⟨y, t⟩
  · simp [joinP]
  · rw [joinP_snoc (by simp), e]; simp only [List.length_append, List.length_cons]; omega
theorem big_any (A : Option Addr) (n c : Nat) (w : World) :
    Calls Try.prog 9 #[.slice A n c] w fun e w' => e = .returned (.bool (decide (1048576 < (n : Int)))) ∧ w' = w := by
  go_enter Try.func9, Try.ntmps9
  go_wp2
  go_ret
  exact ⟨rfl, rfl⟩

set_option maxHeartbeats 8000000 in
theorem fnParts_walk (w : World) (A : Option Addr) (n c : Nat) (l : List UInt8) (_ : n ≤ maxLen) (hl : Bytes w A n l) :
    Calls Try.prog 3 #[.slice A n c] w fun e w' => e = .returned (.bool true) ∧ Below w.heap.size w w' := by
  have HL := hide hl
  clear hl
  by_cases hbig : (1048576 : Int) < n
  · have hd : decide (1048576 < (n : Int)) = true := decide_eq_true hbig
    go_enter Try.func3, Try.ntmps3
    go_wp2_with (fail)
    refine (big_any A n c _).mono ?_
    rintro e w1 ⟨rfl, rfl⟩
    rw [hd]
    go_wp2
    go_ret
    exact ⟨rfl, Below.refl _ _⟩
  · have hd : decide (1048576 < (n : Int)) = false := decide_eq_false hbig
    have hn2 : n ≤ 1048576 := by omega
    go_enter Try.func3, Try.ntmps3
    go_wp2_with (fail)
    refine (big_any A n c _).mono ?_
    rintro e w1 ⟨rfl, rfl⟩
    rw [hd]
    clear hd hbig
    go_wp2_with (fail)
    refine (drawParts_any A n c l _ HL.out hn2).mono ?_
    rintro e w2 ⟨s, X, rfl, hs, hB⟩
    go_wp2_with (fail)
    refine (implParts_any s X.toNat _ (by omega)).mono ?_
    rintro e w3 ⟨D, N, m, rfl, hown, hN, hb⟩
    replace hB := bthen hB hb
    clear hb
    obtain ⟨hno, hj⟩ := parts_law s X.toNat ⟨by omega, by have := X.toNat_lt; omega⟩
    have hx : UInt8.ofNat ((X.toNat : Int).toNat) = X := by simp
    rw [hx] at hj
    clear hx
    have hpl := parts_len s X.toNat
    have hpos : 0 < (parts s X.toNat).length := by simp [parts]
    have hjl : (joinP X (parts s X.toNat)).length = s.size := by rw [hj]; rfl
    obtain ⟨P, hP⟩ : ∃ P, P = parts s X.toNat := ⟨_, rfl⟩
    rw [← hP] at hno hj hown hN hpl hpos hjl
    clear hP
    have HS := hide (OwnS.ints hown)
    clear hown
    have HNO := hide hno
    have HJ := hide hj
    have HJL := hide hjl
    have HN := hide hN
    clear hno hj hjl hN
    have hN0 : 0 < N := by have := HN.out; omega
    have hN7 : N ≤ 7 := by have := HN.out; omega
    have hne : ((N : Int) == 0) = false := beq_eq_false_iff_ne.2 (by omega)
    obtain ⟨a0, rfl, hub0, hc0⟩ := HS.out.at_ hN0
    rw [show a0.add 0 = a0 by simp [Addr.add]] at hc0
    clear hpl hpos
    go_wp2
    have HO0 : Hid ((P[0]?.getD ByteArray.empty).data.toList = joinP X (P.take 1)) := by
      have hl : 0 < P.length := by have := HN.out; omega
      refine hide ?_
      rw [List.take_one, List.head?_eq_getElem?, List.getElem?_eq_getElem hl]
      simp [joinP]
    have hconv := fun (W : World) => run_convert_bytes_back (P := Try.prog) (W.alloc (.cells #[.int .u8 X.toNat] 5)).drew 22 9 5 ⟨W.heap.size, 0, none⟩ 1 [X] Try.underlying22 Try.underlying5 Try.underlying9 (fun j hj => by
      obtain rfl : j = 0 := by simpa using hj
      rw [show (⟨W.heap.size, 0, none⟩ : Addr).add 0 = ⟨W.heap.size, 0, none⟩ by simp [Addr.add]]
      show (W.alloc (.cells #[.int .u8 X.toNat] 5)).cell? _ = _
      rw [cell_of_row _ W.heap.size 0 #[.int .u8 X.toNat] 5 (0, 0) (heap_alloc_new W _)]; rfl)
    simp only [List.length_cons, List.length_nil, Nat.zero_add] at hconv
    clear hub0 hc0 hne
    go_loopw [6, 7] (fun o i wr => ∃ (k : Nat) (O : ByteArray), 1 ≤ k ∧ k ≤ N ∧ i = .int .i64 k ∧ o = .string O ∧ Hid (O.data.toList = joinP X (P.take k)) ∧ Below w3.heap.size w3 wr) (fun _ i _ => N - (intOf i).toNat)
    case atStart => exact ⟨1, _, Nat.le_refl _, by omega, rfl, rfl, HO0, Below.refl _ _⟩
    case round =>
      obtain ⟨k, O, hk1, hk, rfl, rfl, hO, hbel⟩ := hrel
      have HST := hide (HS.out.keep hbel)
      by_cases hlt : k < N
      · obtain ⟨ad, e1, hub, hcell⟩ := HST.out.at_ hlt
        obtain rfl := Option.some.inj e1
        clear e1
        have hst := joinP_take (b := X) (l := P) (k := k) (by omega) (by have := HN.out; omega)
        have hle : (joinP X (P.take (k + 1))).length ≤ 6 := joinP_bound (by omega) (by rw [HJL.out]; exact hs)
        obtain ⟨p, hp⟩ : ∃ p, p = P[k]?.getD ByteArray.empty := ⟨_, rfl⟩
        rw [← hp] at hst hcell
        clear hp
        rw [hst, ← hO.out] at hle
        have hle2 : O.size + (p.size + 1) ≤ 6 := by simpa using hle
        have z1 : ¬ 9223372036854775807 < O.size + 1 := by omega
        have z2 : ¬ 9223372036854775807 < O.size + 1 + p.size := by omega
        have HST1 := hide (show (O ++ ⟨#[X]⟩ ++ p).data.toList = joinP X (P.take (k + 1)) by rw [hst, ← hO.out]; simp)
        clear hst hle
        have hi0 : (0 : Int) ≤ k := by omega
        have hi1 : (k : Int) < N := by omega
        have hcell2 : (wr.alloc (.cells #[.int .u8 X.toNat] 5)).cell? (a0.add k) = some (.string p) := (((Below.refl _ wr).alloc (Nat.le_refl _) _).cell (p := a0.add k) (by rw [block_of_add]; exact hub)).trans hcell
        have hbel2 : Below w3.heap.size w3 (wr.alloc (.cells #[.int .u8 X.toNat] 5)).drew := (hbel.alloc hbel.size _).drew
        go_wp2
        go_region
        all_goals
          go_wp2
          exact ⟨⟨k + 1, _, by omega, by omega, by go_num, rfl, HST1, hbel2⟩, by simp [intOf]; omega⟩
      · obtain rfl : N = k := by omega
        have hOs : O = s := ByteArray.ext (Array.toList_inj.1 (by rw [hO.out, List.take_of_length_le (by have := HN.out; omega), HJ.out]))
        subst hOs
        have hB3 := bthen hB hbel
        clear hO HJ hconv HO0 hlt hk hbel
        have hne : (O.toList == O.toList) = true := by simp
        go_wp2
        go_loopw [8, 9] (fun i _ W => ∃ K : Nat, K ≤ N ∧ i = .int .i64 K ∧ W = wr) (fun i _ _ => N - (intOf i).toNat)
        case atStart => exact ⟨0, Nat.zero_le _, rfl, rfl⟩
        case round =>
          obtain ⟨K, hK, rfl, rfl⟩ := hrel
          by_cases hlt : K < N
          · obtain ⟨ad, e1, hub, hcell⟩ := HST.out.at_ hlt
            obtain rfl := Option.some.inj e1
            clear e1
            have hK0 : (0 : Int) ≤ K := by omega
            have hK1 : (K : Int) < N := by omega
            have hps : (P[K]?.getD ByteArray.empty).size ≤ 6 := by
              have hl : K < P.length := by have := HN.out; omega
              rw [List.getElem?_eq_getElem hl, Option.getD_some]
              have h := joinP_mem (b := X) (List.getElem_mem hl)
              rw [HJL.out] at h
              omega
            have hnp := hide (show noB X.toNat (P[K]?.getD ByteArray.empty) by
              have hl : K < P.length := by have := HN.out; omega
              rw [List.getElem?_eq_getElem hl, Option.getD_some]
              exact HNO.out _ (List.getElem_mem hl))
            generalize P[K]?.getD ByteArray.empty = p at *
            go_wp2
            go_loopw [9] (fun j W => ∃ J : Nat, J ≤ p.size ∧ j = .int .i64 J ∧ W = wr) (fun j _ => p.size - (intOf j).toNat)
            case atStart => exact ⟨0, Nat.zero_le _, rfl, rfl⟩
            case round =>
              obtain ⟨J, hJ, rfl, rfl⟩ := hrel
              by_cases hlj : J < p.size
              · have hc' : ((p[J].toNat : Int) == (X.toNat : Int)) = false := beq_eq_false_iff_ne.2 (by
                  have h := hnp.out J hlj
                  rwa [List.getElem?_eq_getElem (by simpa using hlj), Option.getD_some] at h)
                go_wp2
                go_roundw
                case rel => exact ⟨J + 1, by omega, by go_num, trivial⟩
                case measure => simp [intOf]; omega
              · obtain rfl : p.size = J := by omega
                go_wp2
                go_roundw
                case rel => exact ⟨K + 1, by omega, by go_num, trivial⟩
                case measure => simp [intOf]; omega
          · obtain rfl : N = K := by omega
            go_wp2
            go_ret
            exact ⟨rfl, hB3⟩
end Go.Proofs.Ytjdncobdecdhmaa
