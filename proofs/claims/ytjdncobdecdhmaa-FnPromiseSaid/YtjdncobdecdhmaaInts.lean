/-
  Contracts of functions on slices of integers.
-/
import Derived.Test.YtjdncobdecdhmaaRows
import Derived.Test.YtjdncobdecdhmaaMem
import Derived.Test.YtjdncobdecdhmaaScal
namespace Go.Proofs.Ytjdncobdecdhmaa
open Go.RowKit

/-- How many of l lie below x. -/
def binI (l : List Int) (x : Int) : Nat := (l.filter (fun c => decide (c < x))).length
theorem binI_le (l : List Int) (x : Int) : binI l x ≤ l.length := List.length_filter_le _ _
theorem binI_snoc (l : List Int) (c x : Int) : binI (l ++ [c]) x = binI l x + if c < x then 1 else 0 := by
  unfold binI; by_cases h : c < x <;> simp [List.filter_append, h]
theorem take_snoc_getD (l : List Int) (k : Nat) (h : k < l.length) : l.take (k + 1) = l.take k ++ [l[k]?.getD 0] := by
  rw [List.take_succ_eq_append_getElem h, List.getElem?_eq_getElem h]; rfl
theorem binI_step (l : List Int) (x : Int) (k : Nat) (h : k < l.length) : binI (l.take (k + 1)) x = binI (l.take k) x + if l[k]?.getD 0 < x then 1 else 0 := by
  rw [take_snoc_getD l k h, binI_snoc]

theorem take_eq_step {α : Type} [Inhabited α] {l m : List α} {k : Nat} (d : α) (hl : k < l.length) (hm : k < m.length) (h : l.take k = m.take k) (e : l[k]?.getD d = m[k]?.getD d) : l.take (k + 1) = m.take (k + 1) := by
  rw [List.take_succ_eq_append_getElem hl, List.take_succ_eq_append_getElem hm, h]
  rw [List.getElem?_eq_getElem hl, List.getElem?_eq_getElem hm] at e
  simp only [Option.getD_some] at e
  rw [e]
theorem take_ne_step {α : Type} {l m : List α} {k : Nat} (d : α) (e : ¬ l[k]?.getD d = m[k]?.getD d) : ¬ l = m := by
  rintro rfl
  exact e rfl

set_option maxHeartbeats 400000 in
theorem eqIntS_any (A B : Option Addr) (n m c d : Nat) (l r : List Int) (w : World) (hl : Ints w A n l) (hr : Ints w B m r) (hn : n ≤ 2097152) (hm : m ≤ 2097152) :
    Calls Try.prog 15 #[.slice A n c, .slice B m d] w fun e w' => e = .returned (.bool (decide (l = r))) ∧ ∃ q, w' = w.drewN q := by
  have HL := hide hl
  have HR := hide hr
  clear hl hr
  by_cases hnm : n = m
  · subst hnm
    go_enter Try.func15, Try.ntmps15
    go_wp2
    go_loopw [5] (fun i wr => ∃ k : Nat, k ≤ n ∧ i = .int .i64 k ∧ l.take k = r.take k ∧ ∃ q, wr = w.drewN q) (fun i _ => n - (intOf i).toNat)
    case atStart => exact ⟨0, Nat.zero_le _, rfl, by simp, 0, rfl⟩
    case round =>
      obtain ⟨k, hk, rfl, htk, q, rfl⟩ := hrel
      have HT := hide htk
      clear htk
      by_cases hlt : k < n
      · obtain ⟨a1, rfl, _, hc1⟩ := (HL.out).at_ hlt
        obtain ⟨a2, rfl, _, hc2⟩ := (HR.out).at_ hlt
        by_cases he : l[k]?.getD 0 = r[k]?.getD 0
        · have HS := hide (take_eq_step 0 (by have := HL.out.1; omega) (by have := HR.out.1; omega) HT.out he)
          have HE : ((l[k]?.getD 0) == (r[k]?.getD 0)) = true := beq_iff_eq.2 he
          have HE' : ((l[k]?.getD 0) != (r[k]?.getD 0)) = false := by simp [he]
          clear he
          go_wp2
          go_quiet (fail)
          go_wp2
          go_roundw
          case rel => exact ⟨k + 1, by omega, by go_num, HS.out, _, rfl⟩
          case measure => simp [intOf]; omega
        · have HS := hide (take_ne_step 0 he)
          have HE' : ((l[k]?.getD 0) != (r[k]?.getD 0)) = true := by simp [he]
          clear he
          go_wp2
          go_quiet (fail)
          go_wp2
          go_ret
          exact ⟨ret_bool (by simp [HS.out]), _, World.drewN_drewN _ _ _⟩
      · have HS := hide (show l = r by
          have h := HT.out
          rwa [List.take_of_length_le (by have := HL.out.1; omega), List.take_of_length_le (by have := HR.out.1; omega)] at h)
        go_wp2
        go_ret
        exact ⟨ret_bool (by simp [HS.out]), _, rfl⟩
  · have HS := hide (show ¬ l = r by
      rintro rfl
      exact hnm (by have := HL.out.1; have := HR.out.1; omega))
    have hne : ((n : Int) != (m : Int)) = true := by rw [bne_iff_ne]; omega
    clear hnm
    go_enter Try.func15, Try.ntmps15
    go_wp2
    go_ret
    exact ⟨ret_bool (by simp [HS.out]), 0, rfl⟩

theorem infoI : (Try.prog.info? 3).map (fun i => (i.zero, i.size, i.bytes)) = some (some (.int .i64 0), 1, 8) := by kernel_rfl

/-- A slice value that owns the integers l, in a block from B on. -/
abbrev OwnI (B : Nat) (w : World) (v : Value) (l : List Int) : Prop := w.ownsRow B 3 1 v l.length (l.map (Value.int .i64))

theorem OwnI.ints {B : Nat} {w : World} {A : Option Addr} {n c : Nat} {l : List Int} (h : OwnI B w (.slice A n c) l) : Ints w A n l := by
  obtain ⟨h1, h2⟩ := h
  rcases h2 with ⟨hv, hn⟩ | ⟨g, cap, cur, hv, hb, hg, hnc, hcm, hcs, ht⟩
  · injection hv with h3 h4 h5
    exact ⟨by omega, fun h => absurd h (by omega)⟩
  · injection hv with h3 h4 h5
    subst h3 h4 h5
    refine ⟨rfl, fun hn => ⟨_, rfl, (Array.getElem?_eq_some_iff.1 hg).1, fun i hi => ⟨[.int .i64 l[i]], rfl, rfl, fun j u hu => ?_⟩⟩⟩
    have hj : j = 0 := by
      rcases j with _ | j
      · rfl
      · simp at hu
    subst hj
    simp only [List.getElem?_cons_zero, Option.some.injEq] at hu
    subst hu
    have := World.ownsRow.cells (v := .slice (some ⟨g, 0, none⟩) l.length c) ⟨h1, .inr ⟨g, c, cur, rfl, hb, hg, hnc, hcm, hcs, ht⟩⟩ (g := g) rfl i (.int .i64 l[i]) (by simp [hi])
    simpa using this

/-- The first k of xs, then zeros. -/
def fillTo (xs : List Value) (z : Value) (k : Nat) : List Value := xs.take k ++ List.replicate (xs.length - k) z
theorem fillTo_zero (xs : List Value) (z : Value) : fillTo xs z 0 = List.replicate xs.length z := by simp [fillTo]
theorem fillTo_all {xs : List Value} {z : Value} {k : Nat} (h : xs.length ≤ k) : fillTo xs z k = xs := by
  simp [fillTo, List.take_of_length_le h, show xs.length - k = 0 by omega]
theorem fillTo_set {xs : List Value} {z u : Value} {k : Nat} (h : k < xs.length) (hu : xs[k]? = some u) : (fillTo xs z k).set k u = fillTo xs z (k + 1) := by
  have hl : (xs.take k).length = k := by simp; omega
  have hu' : xs[k] = u := by simpa [List.getElem?_eq_getElem h] using hu
  unfold fillTo
  rw [List.set_append_right _ _ (by omega), hl, Nat.sub_self, show xs.length - k = (xs.length - (k + 1)) + 1 by omega, List.replicate_succ, List.set_cons_zero,
    List.take_succ_eq_append_getElem h, hu', List.append_assoc]
  rfl
theorem fillTo_get {xs : List Value} {z : Value} {k : Nat} (h : k < xs.length) : (fillTo xs z k)[k]? = some z := by
  have hl : (xs.take k).length = k := by simp; omega
  unfold fillTo
  rw [List.getElem?_append_right (by omega), hl, Nat.sub_self, show xs.length - k = (xs.length - (k + 1)) + 1 by omega, List.replicate_succ]
  rfl
theorem getD_map_int {l : List Int} {k : Nat} (h : k < l.length) : (l.map (Value.int .i64))[k]? = some (.int .i64 (l[k]?.getD 0)) := by
  rw [List.getElem?_map, List.getElem?_eq_getElem h]; rfl

theorem ints_of {B : Nat} {w : World} {A : Option Addr} {n c : Nat} {l : List Int} (h : w.ownsRow B 3 1 (.slice A n c) n (l.map (Value.int .i64))) : Ints w A n l := by
  have hn : n = l.length := by simpa using h.1.symm
  subst hn
  exact OwnI.ints h
theorem eqIntS_b (A B : Option Addr) (n m c d : Nat) (l r : List Int) (w : World) (hl : Ints w A n l) (hr : Ints w B m r) (hn : n ≤ 2097152) (hm : m ≤ 2097152) :
    Calls Try.prog 15 #[.slice A n c, .slice B m d] w fun e w' => e = .returned (.bool (decide (l = r))) ∧ Below w.heap.size w w' :=
  (eqIntS_any A B n m c d l r w hl hr hn hm).mono fun _ _ ⟨he, q, hw⟩ => ⟨he, by subst hw; exact below_drewN (Below.refl _ _) _⟩

set_option maxHeartbeats 400000 in
theorem toIntS_any (A : Option Addr) (n c : Nat) (l : List Int) (w : World) (hl : Ints w A n l) (hn : n ≤ 2097152) :
    Calls Try.prog 13 #[.slice A n c] w fun e w' => ∃ D m, e = .returned (.slice D n m) ∧ OwnI w.heap.size w' (.slice D n m) l ∧ Below w.heap.size w w' := by
  have HL := hide hl
  have hlen : l.length ≤ n := by rw [hl.1]; exact Nat.le_refl _
  have hlen' : n ≤ l.length := by rw [hl.1]; exact Nat.le_refl _
  clear hl
  obtain ⟨i0, hi0, hz0, hz1, hz2⟩ := info_parts infoI
  go_enter Try.func13, Try.ntmps13
  go_wp2_with (at_make; refine wpList_make_full _ rfl _ _ 28 rfl w.heap.size 3 i0 (.int .i64 0) 1 Try.underlying28 hi0 hz0 hz1 _ _ _ _ n rfl rfl rfl rfl (by rw [hz2]; omega) (by unfold maxLen; omega) (Nat.le_refl _) ?_; intro w1 hown1 hg1)
  have hown : w1.ownsRow w.heap.size 3 1 (.slice (some ⟨w.heap.size, 0, none⟩) n n) n (fillTo (l.map (Value.int .i64)) (.int .i64 0) 0) := by
    have h := hown1
    simp only [Value.cells, Nat.mul_one] at h
    rw [toList_madeCells_one] at h
    rw [fillTo_zero, List.length_map, show l.length = n by omega]
    exact h
  have hb1 : Below w.heap.size w w1 := (Below.refl _ _).grown hg1 (Nat.le_refl _) (by simp)
  clear hown1 hg1 hi0 hz0 hz1 hz2
  go_loopw [4] (fun i wr => ∃ k : Nat, k ≤ n ∧ i = .int .i64 k ∧ wr.ownsRow w.heap.size 3 1 (.slice (some ⟨w.heap.size, 0, none⟩) n n) n (fillTo (l.map (Value.int .i64)) (.int .i64 0) k) ∧ Below w.heap.size w wr) (fun i _ => n - (intOf i).toNat)
  case atStart => exact ⟨0, Nat.zero_le _, rfl, hown, hb1⟩
  case round =>
    clear hown hb1
    obtain ⟨k, hk, rfl, hown, hbel⟩ := hrel
    by_cases hlt : k < n
    · obtain ⟨ad, rfl, hbk, hcell⟩ := (HL.out).at_ hlt
      have hc1 := (hbel.cell (p := ad.add k) (by rw [block_of_add]; exact hbk)).trans hcell
      have hc2 := (hown.cellAt k (by omega)).trans (fillTo_get (by simp; omega))
      have hf2 := hown.frozenAt k
      have hst := (hown.stored k (.int .i64 (l[k]?.getD 0))).1
      rw [fillTo_set (by simp; omega) (getD_map_int (by omega))] at hst
      have hb2 := hbel.setCell (p := ⟨w.heap.size, k, none⟩) (Nat.le_refl _) (.int .i64 (l[k]?.getD 0))
      go_wp2
      go_roundw
      case rel => exact ⟨k + 1, by omega, by go_num, hst, hb2⟩
      case measure => simp [intOf]; omega
    · rw [fillTo_all (by simp; omega)] at hown
      go_wp2
      go_ret
      refine ⟨_, _, rfl, ?_, hbel⟩
      show World.ownsRow _ _ _ _ _ _ _
      rw [show l.length = n by omega]
      exact hown

/-- The first k of ys, then what xs has from k on. -/
def mixTo (xs ys : List Value) (k : Nat) : List Value := ys.take k ++ xs.drop k
theorem mixTo_zero (xs ys : List Value) : mixTo xs ys 0 = xs := by simp [mixTo]
theorem mixTo_all {xs ys : List Value} {k : Nat} (h : ys.length ≤ k) (h' : xs.length ≤ k) : mixTo xs ys k = ys := by
  simp [mixTo, List.take_of_length_le h, List.drop_eq_nil_of_le h']
theorem mixTo_set {xs ys : List Value} {u : Value} {k : Nat} (h : k < xs.length) (h' : k < ys.length) (hu : ys[k]? = some u) : (mixTo xs ys k).set k u = mixTo xs ys (k + 1) := by
  have hl : (ys.take k).length = k := by simp; omega
  have hu' : ys[k] = u := by simpa [List.getElem?_eq_getElem h'] using hu
  unfold mixTo
  rw [List.set_append_right _ _ (by omega), hl, Nat.sub_self, List.drop_eq_getElem_cons h, List.set_cons_zero, List.take_succ_eq_append_getElem h', hu', List.append_assoc]
  rfl
theorem mixTo_get {xs ys : List Value} {k : Nat} (h' : k < ys.length) : (mixTo xs ys k)[k]? = xs[k]? := by
  have hl : (ys.take k).length = k := by simp; omega
  unfold mixTo
  rw [List.getElem?_append_right (by omega), hl, Nat.sub_self, List.getElem?_drop, Nat.add_zero]

theorem only_of_below {a w : World} (h : Below a.heap.size a w) (row : Option Nat) : a.grownBy w row := ⟨h.os, h.tape, h.output, h.size, fun i hi _ => h.block i hi⟩
theorem below_of_only {a w : World} (h : a.grownBy w none) : Below a.heap.size a w := ⟨h.os, h.tape, h.output, h.size, fun i hi => h.block i hi (by simp)⟩
theorem only_trans {a b c : World} {row : Option Nat} (h : a.grownBy b row) (k : b.grownBy c row) : a.grownBy c row :=
  ⟨k.os.trans h.os, k.tape.trans h.tape, k.output.trans h.output, Nat.le_trans h.size k.size,
    fun i hi hne => (k.block i (Nat.lt_of_lt_of_le hi h.size) hne).trans (h.block i hi hne)⟩
theorem own_form {w : World} {B : Nat} {e : TypeId} {sz n c : Nat} {A : Option Addr} {xs : List Value} (h : w.ownsRow B e sz (.slice A n c) n xs) (hn : 0 < n) :
    ∃ g, A = some ⟨g, 0, none⟩ ∧ B ≤ g ∧ g < w.heap.size := by
  rcases h.2 with ⟨hv, h0⟩ | ⟨g, cap, cur, hv, hb, hg, _⟩
  · omega
  · injection hv with h1 h2 h3
    exact ⟨g, h1, hb, (Array.getElem?_eq_some_iff.1 hg).1⟩

/-- The marks k, k + 1, .. -/
def marksI (k : Int) (n : Nat) : List Int := (List.range n).map fun i => k + (i : Nat)
theorem marksI_len (k : Int) (n : Nat) : (marksI k n).length = n := by simp [marksI]
theorem marksI_get (k : Int) {n i : Nat} (h : i < n) : (marksI k n)[i]?.getD 0 = k + i := by simp [marksI, h]

set_option maxHeartbeats 400000 in
theorem markIntS_any (B : Nat) (A : Option Addr) (n c : Nat) (l : List Int) (k0 : Int) (w : World) (hl : w.ownsRow B 3 1 (.slice A n c) n (l.map (Value.int .i64)))
    (hn : n ≤ 2097152) (h0 : 0 ≤ k0) (h1 : k0 ≤ 1099511627776) :
    Calls Try.prog 16 #[.slice A n c, .int .i64 k0] w fun e w' => e = .returned (.int .i64 (k0 + n)) ∧
      w'.ownsRow B 3 1 (.slice A n c) n ((marksI k0 n).map (Value.int .i64)) ∧ w.grownBy w' (Value.ownBlock (.slice A n c)) := by
  have hlen : l.length = n := by simpa using hl.1
  have HX := hide hlen
  clear hlen
  go_enter Try.func16, Try.ntmps16
  go_wp2
  go_loopw [1, 5] (fun v i wr => ∃ k : Nat, k ≤ n ∧ i = .int .i64 k ∧ v = .int .i64 (k0 + k) ∧ wr.ownsRow B 3 1 (.slice A n c) n (mixTo (l.map (Value.int .i64)) ((marksI k0 n).map (Value.int .i64)) k) ∧ w.grownBy wr (Value.ownBlock (.slice A n c))) (fun _ i _ => n - (intOf i).toNat)
  case atStart => exact ⟨0, Nat.zero_le _, rfl, by simp, by rw [mixTo_zero]; exact hl, World.grownBy.refl _ _⟩
  case round =>
    clear hl
    obtain ⟨k, hk, rfl, rfl, hown, hgr⟩ := hrel
    by_cases hlt : k < n
    · obtain ⟨g, rfl, hbk, hgl⟩ := own_form hown (by omega)
      have hc2 := hown.cellAt k (by omega)
      rw [mixTo_get (by simp [marksI_len]; omega), getD_map_int (by have := HX.out; omega)] at hc2
      have hf2 := hown.frozenAt k
      have hst := hown.stored k (.int .i64 (k0 + k))
      rw [mixTo_set (by simp; have := HX.out; omega) (by simp [marksI_len]; omega) (by rw [getD_map_int (by rw [marksI_len]; omega), marksI_get k0 hlt])] at hst
      have hst1 := hst.1
      have hst2 := only_trans hgr hst.2
      clear hst
      go_wp2
      go_roundw
      case rel => exact ⟨k + 1, by omega, by go_num, by go_num, hst1, hst2⟩
      case measure => simp [intOf]; omega
    · obtain rfl : k = n := by omega
      rw [mixTo_all (by simp [marksI_len]) (by simp; have := HX.out; omega)] at hown
      go_wp2
      go_ret
      exact ⟨rfl, hown, hgr⟩

set_option maxHeartbeats 400000 in
theorem heldIntS_any (A : Option Addr) (n c : Nat) (k0 : Int) (w : World) (hl : Ints w A n (marksI k0 n)) (hn : n ≤ 2097152) (h0 : 0 ≤ k0) (h1 : k0 ≤ 1099511627776) :
    Calls Try.prog 17 #[.slice A n c, .int .i64 k0] w fun e w' => e = .returned (.int .i64 (k0 + n)) ∧ w = w' := by
  have HL := hide hl
  clear hl
  go_enter Try.func17, Try.ntmps17
  go_wp2
  go_loop [1, 5] (fun v i => ∃ k : Nat, k ≤ n ∧ i = .int .i64 k ∧ v = .int .i64 (k0 + k)) (fun _ i => n - (intOf i).toNat)
  case atStart => exact ⟨0, Nat.zero_le _, rfl, by simp⟩
  case round =>
    obtain ⟨k, hk, rfl, rfl⟩ := hrel
    by_cases hlt : k < n
    · obtain ⟨ad, rfl, _, hcell⟩ := (HL.out).at_ hlt
      rw [marksI_get k0 hlt] at hcell
      go_wp2
      go_round
      case rel => exact ⟨k + 1, by omega, by go_num, by go_num⟩
      case measure => simp [intOf]; omega
    · obtain rfl : k = n := by omega
      go_wp2
      go_ret
      exact ⟨rfl, rfl⟩
end Go.Proofs.Ytjdncobdecdhmaa
