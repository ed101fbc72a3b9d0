/-
  Contracts: the cursor of a draw.
-/
import Derived.IntWalk
import Derived.Test.YtjdncobdecdhmaaStrs
import Derived.Test.YtjdncobdecdhmaaBag
import Derived.Test.YtjdncobdecdhmaaInts
namespace Go.Proofs.Ytjdncobdecdhmaa
open Go.RowKit
set_option maxRecDepth 100000

/-- A cursor in block b: the bytes, where it stands, its mix. -/
def Cur (w : World) (b : Nat) : Prop :=
  ∃ (A : Option Addr) (n c : Nat) (l : List UInt8) (i : Nat) (h : Int), w.cell? ⟨b, 0, none⟩ = some (.slice A n c) ∧ w.cell? ⟨b, 1, none⟩ = some (.int .i64 i) ∧ w.cell? ⟨b, 2, none⟩ = some (.int .i64 h) ∧
    w.frozen? ⟨b, 1, none⟩ = false ∧ w.frozen? ⟨b, 2, none⟩ = false ∧ b < w.heap.size ∧ i ≤ n ∧ n ≤ 1048576 ∧ Bytes w A n l ∧ (0 < n → ∀ a, A = some a → a.block < b)
theorem Cur.keep {w w' : World} {b : Nat} (h : Cur w b) (hb : Below w.heap.size w w') : Cur w' b := by
  obtain ⟨A, n, c, l, i, x, h0, h1, h2, f1, f2, hlt, hi, hn, hl, ha⟩ := h
  exact ⟨A, n, c, l, i, x, (hb.cell (p := ⟨b, 0, none⟩) hlt).trans h0, (hb.cell (p := ⟨b, 1, none⟩) hlt).trans h1, (hb.cell (p := ⟨b, 2, none⟩) hlt).trans h2,
    (hb.frozen (p := ⟨b, 1, none⟩) hlt).trans f1, (hb.frozen (p := ⟨b, 2, none⟩) hlt).trans f2, Nat.lt_of_lt_of_le hlt hb.size, hi, hn, hl.keep hb, ha⟩

theorem Slc.only {α : Type} {sz : Nat} {E : World → List Value → α → Prop} {S : Nat → Prop} {w w' : World} {A : Option Addr} {n : Nat} {l : List α}
    (h : Slc sz E w A n l) (hE : ∀ cs x, E w cs x → E w' cs x) (ho : Only S w w') (ha : 0 < n → ∀ a, A = some a → ¬ S a.block) : Slc sz E w' A n l :=
  ⟨h.1, fun hn => by
    obtain ⟨ad, e, hlt, hc⟩ := h.2 hn
    refine ⟨ad, e, Nat.lt_of_lt_of_le hlt ho.size, fun i hi => ?_⟩
    obtain ⟨cs, h1, h2, h3⟩ := hc i hi
    exact ⟨cs, h1, hE _ _ h2, fun j u hu => (ho.cell (by rw [block_of_add]; exact ha hn ad e) (by rw [block_of_add]; exact hlt)).trans (h3 j u hu)⟩⟩
theorem Bytes.only {S : Nat → Prop} {w w' : World} {A : Option Addr} {n : Nat} {l : List UInt8} (h : Bytes w A n l) (ho : Only S w w') (ha : 0 < n → ∀ a, A = some a → ¬ S a.block) : Bytes w' A n l := Slc.only h (fun _ _ h => h) ho ha
theorem Ints.only {S : Nat → Prop} {w w' : World} {A : Option Addr} {n : Nat} {l : List Int} (h : Ints w A n l) (ho : Only S w w') (ha : 0 < n → ∀ a, A = some a → ¬ S a.block) : Ints w' A n l := Slc.only h (fun _ _ h => h) ho ha
theorem Strs.only {S : Nat → Prop} {w w' : World} {A : Option Addr} {n : Nat} {l : List ByteArray} (h : Strs w A n l) (ho : Only S w w') (ha : 0 < n → ∀ a, A = some a → ¬ S a.block) : Strs w' A n l := Slc.only h (fun _ _ h => h) ho ha

theorem Cur.next {w W : World} {b n c i : Nat} {A : Option Addr} {l : List UInt8} {y : Int} (k0 : w.cell? ⟨b, 0, none⟩ = some (.slice A n c)) (k1 : w.cell? ⟨b, 1, none⟩ = some (.int .i64 i)) (k2 : w.cell? ⟨b, 2, none⟩ = some (.int .i64 y))
    (g1 : w.frozen? ⟨b, 1, none⟩ = false) (g2 : w.frozen? ⟨b, 2, none⟩ = false) (hlt : b < w.heap.size) (hi : i + 1 ≤ n) (hn : n ≤ 1048576) (hl : Bytes w A n l) (ha : 0 < n → ∀ a, A = some a → a.block < b) (hd : Below w.heap.size w W) :
    Cur (W.setCell ⟨b, 1, none⟩ (.int .i64 ((i : Int) + 1))) b := by
  have q0 := (hd.cell (p := ⟨b, 0, none⟩) hlt).trans k0
  have q1 := (hd.cell (p := ⟨b, 1, none⟩) hlt).trans k1
  have q2 := (hd.cell (p := ⟨b, 2, none⟩) hlt).trans k2
  have f1 := (hd.frozen (p := ⟨b, 1, none⟩) hlt).trans g1
  have f2 := (hd.frozen (p := ⟨b, 2, none⟩) hlt).trans g2
  have hsz := hd.size
  exact ⟨A, n, c, l, i + 1, y, by go_simp, by go_simp, by go_simp, by go_simp, by go_simp, by simp; omega, hi, hn,
    (hl.keep hd).only ((Only.refl (· = b) W).setCell (p := ⟨b, 1, none⟩) rfl _) (fun h a e (q : a.block = b) => by have := ha h a e; omega), ha⟩
theorem and_le (z : Int) (M : Nat) (hM : M < 4611686018427387904) : 0 ≤ bits .and .i64 z M ∧ bits .and .i64 z M ≤ M := by
  have h : ((BitVec.ofInt 64 z) &&& (BitVec.ofInt 64 (M : Int))).toNat ≤ M := by
    rw [BitVec.toNat_and]
    refine Nat.le_trans Nat.and_le_right ?_
    rw [BitVec.toNat_ofInt]
    omega
  have e : bits .and .i64 z M = IntKind.i64.wrap ((BitVec.ofInt 64 z) &&& (BitVec.ofInt 64 (M : Int))).toNat := rfl
  rw [e, IntWalk.i64_in _ (by omega)]
  omega

/-- A cursor lies below B: what is done to blocks from B on does not touch it. -/
theorem Cur.low {w w' : World} {b B : Nat} (h : Cur w b) (hB : b < B) (hb : Below B w w') : Cur w' b := by
  obtain ⟨A, n, c, l, i, x, h0, h1, h2, f1, f2, hlt, hi, hn, hl, ha⟩ := h
  have ho : Only (fun j => B ≤ j) w w' := ⟨hb.os, hb.tape, hb.output, hb.size, fun k _ hk => hb.block k (by omega)⟩
  exact ⟨A, n, c, l, i, x, (hb.cell (p := ⟨b, 0, none⟩) hB).trans h0, (hb.cell (p := ⟨b, 1, none⟩) hB).trans h1, (hb.cell (p := ⟨b, 2, none⟩) hB).trans h2,
    (hb.frozen (p := ⟨b, 1, none⟩) hB).trans f1, (hb.frozen (p := ⟨b, 2, none⟩) hB).trans f2, Nat.lt_of_lt_of_le hlt hb.size, hi, hn,
    hl.only ho (fun h a e (q : B ≤ a.block) => by have := ha h a e; omega), ha⟩
theorem Only.low {S : Nat → Prop} {w w1 w2 : World} (h : Only S w w1) (hb : Below w.heap.size w1 w2) : Only S w w2 :=
  ⟨hb.os.trans h.os, hb.tape.trans h.tape, hb.output.trans h.output, Nat.le_trans h.size hb.size, fun k hk hn => (hb.block k hk).trans (h.block k hk hn)⟩
theorem Cur.lt {w : World} {b : Nat} (h : Cur w b) : b < w.heap.size := by
  obtain ⟨_, _, _, _, _, _, _, _, _, _, _, hlt, _⟩ := h
  exact hlt

set_option maxHeartbeats 4000000 in
theorem l1Byte_any (b : Nat) (w : World) (h : Cur w b) :
    Calls Try.prog 93 #[.pointer (some ⟨b, 0, none⟩)] w fun e w' => ∃ x : Int, e = .returned (.int .i64 x) ∧ 0 ≤ x ∧ x ≤ 255 ∧ Cur w' b ∧ Only (· = b) w w' := by
  obtain ⟨A, n, c, l, i, x, h0, h1, h2, f1, f2, hlt, hi, hn, hl, ha⟩ := h
  go_enter Try.func93, Try.ntmps93
  go_wp2
  obtain ⟨y, hy⟩ : ∃ y, y = wrap64 (wrap64 (x * 6364136223846793005) + 1442695040888963407) := ⟨_, rfl⟩
  rw [← hy]
  clear hy
  have k0 : (w.setCell ⟨b, 2, none⟩ (.int .i64 y)).cell? ⟨b, 0, none⟩ = some (.slice A n c) := by go_simp
  have k1 : (w.setCell ⟨b, 2, none⟩ (.int .i64 y)).cell? ⟨b, 1, none⟩ = some (.int .i64 i) := by go_simp
  have k2 : (w.setCell ⟨b, 2, none⟩ (.int .i64 y)).cell? ⟨b, 2, none⟩ = some (.int .i64 y) := by go_simp
  have g1 : (w.setCell ⟨b, 2, none⟩ (.int .i64 y)).frozen? ⟨b, 1, none⟩ = false := by go_simp
  have g2 : (w.setCell ⟨b, 2, none⟩ (.int .i64 y)).frozen? ⟨b, 2, none⟩ = false := by go_simp
  have hO : Only (· = b) w (w.setCell ⟨b, 2, none⟩ (.int .i64 y)) := (Only.refl (· = b) w).setCell (p := ⟨b, 2, none⟩) rfl _
  have HL := hide (hl.only hO (fun h a e (q : a.block = b) => by have := ha h a e; omega))
  have hlt2 : b < (w.setCell ⟨b, 2, none⟩ (.int .i64 y)).heap.size := by simpa using hlt
  clear h0 h1 h2 f1 f2 hlt hl
  generalize w.setCell ⟨b, 2, none⟩ (.int .i64 y) = W at *
  have HA := hide ha
  clear ha
  go_quiet (fail)
  obtain ⟨X, hX, hX0, hX1⟩ : ∃ X, X = bits BinOp.and IntKind.i64 (bits BinOp.xor IntKind.i64 (y / 8589934592) (y / 35184372088832)) 255 ∧ 0 ≤ X ∧ X ≤ 255 := ⟨_, rfl, and_le _ 255 (by omega)⟩
  rw [← hX]
  clear hX
  generalize hy1 : y / 8589934592 = y1
  generalize hy2 : y / 35184372088832 = y2
  clear hy1 hy2
  go_wp2
  by_cases hlt : i < n
  · obtain ⟨ad, rfl, hub, hcell⟩ := HL.out.at_ hlt
    have hi0 : (0 : Int) ≤ i := by omega
    have hi1 : (i : Int) < n := by omega
    go_quiet (fail)
    go_wp2
    go_quiet (fail)
    generalize (l[i]?.getD 0).toNat = v at *
    have hx := and_le (wrap64 (X + wrap64 (v : Int))) 255 (by omega)
    obtain ⟨Y, hY, hY0, hY1⟩ : ∃ Y, Y = bits .and .i64 (wrap64 (X + wrap64 (v : Int))) 255 ∧ 0 ≤ Y ∧ Y ≤ 255 := ⟨_, rfl, hx⟩
    clear hx
    rw [← hY]
    clear hY
    go_wp2
    go_ret
    refine ⟨Y, rfl, hY0, hY1, Cur.next k0 k1 k2 g1 g2 hlt2 (by omega) hn HL.out HA.out ?_, hO.trans ((Only.of_below (S := (· = b)) ?_).setCell (p := ⟨b, 1, none⟩) rfl _)⟩ <;>
      exact below_drewN (Below.refl _ _) _
  · go_quiet (fail)
    go_wp2
    go_ret
    refine ⟨X, rfl, hX0, hX1, Cur.keep ⟨A, n, c, l, i, y, k0, k1, k2, g1, g2, hlt2, hi, hn, HL.out, HA.out⟩ ?_, hO.trans (Only.of_below ?_)⟩ <;>
      exact below_drewN (below_drewN (Below.refl _ _) _) _

theorem emod_in {x n : Int} (hn : 0 < n) : 0 ≤ x % n ∧ x % n < n := ⟨Int.emod_nonneg _ (by omega), Int.emod_lt_of_pos _ hn⟩

set_option maxHeartbeats 4000000 in
theorem l1Below_any (b : Nat) (n : Int) (w : World) (h : Cur w b) (hn : n ≤ 9223372036854775807) :
    Calls Try.prog 77 #[.pointer (some ⟨b, 0, none⟩), .int .i64 n] w fun e w' => ∃ x : Int, e = .returned (.int .i64 x) ∧ 0 ≤ x ∧ (0 < n → x < n) ∧ (n ≤ 0 → x = 0) ∧ Cur w' b ∧ Only (· = b) w w' := by
  have HC := hide h
  clear h
  by_cases h0 : n ≤ 0
  · go_enter Try.func77, Try.ntmps77
    go_wp2
    go_ret
    exact ⟨0, rfl, by omega, fun h => by omega, fun _ => rfl, HC.out, Only.refl _ _⟩
  · have hne : (n == 0) = false := beq_eq_false_iff_ne.2 (by omega)
    by_cases h1 : n ≤ 256
    · go_enter Try.func77, Try.ntmps77
      go_wp2_with (fail)
      refine (l1Byte_any b _ HC.out).mono ?_
      rintro e w1 ⟨x, rfl, hx0, hx1, hC1, ho1⟩
      have HC1 := hide hC1
      clear hC1
      go_wp2
      go_ret
      exact ⟨x % n, rfl, (emod_in h0).1, fun _ => (emod_in h0).2, fun h => by omega, HC1.out, ho1⟩
    · go_enter Try.func77, Try.ntmps77
      go_wp2_with (fail)
      refine (l1Byte_any b _ HC.out).mono ?_
      rintro e w1 ⟨x, rfl, hx0, hx1, hC1, ho1⟩
      have HC1 := hide hC1
      clear hC1
      go_wp2_with (fail)
      refine (l1Byte_any b _ HC1.out).mono ?_
      rintro e w2 ⟨y, rfl, hy0, hy1, hC2, ho2⟩
      have HC2 := hide hC2
      clear hC2
      go_wp2_with (fail)
      refine (l1Byte_any b _ HC2.out).mono ?_
      rintro e w3 ⟨z, rfl, hz0, hz1, hC3, ho3⟩
      have HC3 := hide hC3
      clear hC3
      go_wp2_with (fail)
      refine (l1Byte_any b _ HC3.out).mono ?_
      rintro e w4 ⟨v, rfl, hv0, hv1, hC4, ho4⟩
      have HC4 := hide hC4
      clear hC4
      go_wp2
      go_ret
      exact ⟨(x * 16777216 + y * 65536 + z * 256 + v) % n, rfl, (emod_in h0).1, fun _ => (emod_in h0).2, fun h => by omega, HC4.out, ((ho1.trans ho2).trans ho3).trans ho4⟩

set_option maxHeartbeats 4000000 in
theorem l1Once_any (b : Nat) (n : Int) (w : World) (h : Cur w b) (hn : n ≤ 9223372036854775807) :
    Calls Try.prog 92 #[.pointer (some ⟨b, 0, none⟩), .int .i64 n] w fun e w' => ∃ x : Bool, e = .returned (.bool x) ∧ Cur w' b ∧ Only (· = b) w w' := by
  have HC := hide h
  clear h
  go_enter Try.func92, Try.ntmps92
  go_wp2_with (fail)
  refine (l1Below_any b _ _ HC.out hn).mono ?_
  rintro e w1 ⟨x, rfl, hx0, hx1, hx2, hC1, ho1⟩
  have HC1 := hide hC1
  have HO := hide ho1
  clear hC1 hx1 hx2 ho1
  go_wp2
  go_ret
  exact ⟨_, rfl, HC1.out, HO.out⟩

set_option maxHeartbeats 4000000 in
theorem l1Pick_any (b : Nat) (A : Option Addr) (n c : Nat) (l : List ByteArray) (w : World) (h : Cur w b) (hl : Strs w A n l) (ha : 0 < n → ∀ a, A = some a → a.block ≠ b) (hn : 0 < n) (hn2 : n ≤ 1048576) :
    Calls Try.prog 44 #[.pointer (some ⟨b, 0, none⟩), .slice A n c] w fun e w' => ∃ k : Nat, k < n ∧ e = .returned (.string (l[k]?.getD ByteArray.empty)) ∧ Cur w' b ∧ Only (· = b) w w' := by
  have HC := hide h
  have HL := hide hl
  have HA := hide ha
  clear h hl ha
  go_enter Try.func44, Try.ntmps44
  go_wp2_with (fail)
  refine (l1Below_any b _ _ HC.out (by omega)).mono ?_
  rintro e w1 ⟨x, rfl, hx0, hx1, -, hC1, ho1⟩
  have HC1 := hide hC1
  clear hC1
  have hx2 : x < n := hx1 (by omega)
  clear hx1
  obtain ⟨k, rfl⟩ : ∃ k : Nat, x = k := ⟨x.toNat, by omega⟩
  obtain ⟨ad, rfl, hub, hcell⟩ := (HL.out.only ho1 (fun h a e => HA.out h a e)).at_ (k := k) (by omega)
  have HO := hide ho1
  clear ho1
  go_wp2
  go_ret
  exact ⟨k, by omega, rfl, HC1.out, HO.out⟩

set_option maxHeartbeats 4000000 in
theorem l1PickInt_any (b : Nat) (A : Option Addr) (n c : Nat) (l : List Int) (w : World) (h : Cur w b) (hl : Ints w A n l) (ha : 0 < n → ∀ a, A = some a → a.block ≠ b) (hn : 0 < n) (hn2 : n ≤ 1048576) :
    Calls Try.prog 45 #[.pointer (some ⟨b, 0, none⟩), .slice A n c] w fun e w' => ∃ k : Nat, k < n ∧ e = .returned (.int .i64 (l[k]?.getD 0)) ∧ Cur w' b ∧ Only (· = b) w w' := by
  have HC := hide h
  have HL := hide hl
  have HA := hide ha
  clear h hl ha
  go_enter Try.func45, Try.ntmps45
  go_wp2_with (fail)
  refine (l1Below_any b _ _ HC.out (by omega)).mono ?_
  rintro e w1 ⟨x, rfl, hx0, hx1, -, hC1, ho1⟩
  have HC1 := hide hC1
  clear hC1
  have hx2 : x < n := hx1 (by omega)
  clear hx1
  obtain ⟨k, rfl⟩ : ∃ k : Nat, x = k := ⟨x.toNat, by omega⟩
  obtain ⟨ad, rfl, hub, hcell⟩ := (HL.out.only ho1 (fun h a e => HA.out h a e)).at_ (k := k) (by omega)
  have HO := hide ho1
  clear ho1
  go_wp2
  go_ret
  exact ⟨k, by omega, rfl, HC1.out, HO.out⟩

/-- A new cursor. -/
theorem Cur.new (w : World) (A : Option Addr) (n c : Nat) (l : List UInt8) (h : Int) (t : TypeId) (hl : Bytes w A n l) (hn : n ≤ 1048576) : Cur (w.alloc (.cells #[.slice A n c, .int .i64 0, .int .i64 h] t)) w.heap.size :=
  ⟨A, n, c, l, 0, h, by rw [cell_of_row _ w.heap.size 0 #[.slice A n c, .int .i64 0, .int .i64 h] t (0, 0) (heap_alloc_new w _)]; rfl,
    by rw [cell_of_row _ w.heap.size 1 #[.slice A n c, .int .i64 0, .int .i64 h] t (0, 0) (heap_alloc_new w _)]; rfl,
    by rw [cell_of_row _ w.heap.size 2 #[.slice A n c, .int .i64 0, .int .i64 h] t (0, 0) (heap_alloc_new w _)]; rfl,
    by go_simp, by go_simp, by simp, Nat.zero_le _, hn, hl.keep ((Below.refl _ _).alloc (Nat.le_refl _) _), fun h a e => by obtain ⟨ad, rfl, hlt, -⟩ := hl.2 h; obtain rfl := Option.some.inj e; omega⟩

set_option maxHeartbeats 4000000 in
theorem l1New_any (A : Option Addr) (n c : Nat) (l : List UInt8) (w : World) (hl : Bytes w A n l) (hn : n ≤ 1048576) :
    Calls Try.prog 43 #[.slice A n c] w fun e w' => ∃ b, e = .returned (.pointer (some ⟨b, 0, none⟩)) ∧ w.heap.size ≤ b ∧ Cur w' b ∧ Below w.heap.size w w' := by
  have HL := hide hl
  clear hl
  go_enter Try.func43, Try.ntmps43
  go_wp2
  go_loopw [3, 4] (fun h i wr => ∃ (k : Nat) (x : Int), k ≤ n ∧ k ≤ 4000 ∧ i = .int .i64 k ∧ h = .int .i64 x ∧ wr = w) (fun _ i _ => n - (intOf i).toNat)
  case atStart => exact ⟨0, _, Nat.zero_le _, Nat.zero_le _, rfl, rfl, rfl⟩
  case round =>
    obtain ⟨k, x, hk, hk2, rfl, rfl, rfl⟩ := hrel
    by_cases hlt : k < n
    · by_cases hlt2 : k < 4000
      · obtain ⟨ad, rfl, hub, hcell⟩ := HL.out.at_ hlt
        go_wp2
        go_roundw
        case rel => exact ⟨k + 1, _, by omega, by omega, by go_num, rfl, trivial⟩
        case measure => simp [intOf]; omega
      · go_wp2
        go_ret
        exact ⟨_, rfl, Nat.le_refl _, Cur.new _ _ _ _ _ _ _ HL.out hn, (Below.refl _ _).alloc (Nat.le_refl _) _⟩
    · go_wp2
      go_ret
      exact ⟨_, rfl, Nat.le_refl _, Cur.new _ _ _ _ _ _ _ HL.out hn, (Below.refl _ _).alloc (Nat.le_refl _) _⟩
end Go.Proofs.Ytjdncobdecdhmaa
