/-
  The law FnNumbers.
-/
import Derived.Test.YtohodehmidbmlaaDoorNumbP
import Derived.Test.YtohodehmidbmlaaDoorDrawA
import Derived.Test.YtohodehmidbmlaaDoorPartsW
import Derived.Test.YtohodehmidbmlaaDoorNum2
import Derived.Test.YtohodehmidbmlaaDoorApp
namespace Go.Proofs.YtohodehmidbmlaaDoor
open Go.RowKit
set_option maxRecDepth 100000

def numsL : List Int := [0, 1, 127, 128, 300, 16384, 2147483647, 2147483648, -1, 9223372036854775807]
theorem numsL_bd : ∀ k, k < 10 → -1 ≤ numsL[k]?.getD 0 ∧ numsL[k]?.getD 0 ≤ 9223372036854775807 := by decide
def textsL : List ByteArray := [⟨#[]⟩, ⟨#[97]⟩, ⟨#[116, 119, 111, 32, 119, 111, 114, 100, 115]⟩, ⟨#[0, 255]⟩]
theorem textsL_size : ∀ k, k < 4 → (textsL[k]?.getD ByteArray.empty).size ≤ 9 := by decide

set_option maxHeartbeats 4000000 in
theorem drawPutNum_any (A : Option Addr) (n c : Nat) (l : List UInt8) (w : World) (hl : Bytes w A n l) (hn : n ≤ 1048576) :
    Calls Tryd.prog 54 #[.slice A n c] w fun e w' => ∃ x : Int, e = .returned (.int .i64 x) ∧ -1 ≤ x ∧ x ≤ 9223372036854775807 ∧ Below w.heap.size w w' := by
  have HL := hide hl
  clear hl
  go_enter Tryd.func54, Tryd.ntmps54
  go_wp2_with (fail)
  refine (l1New_any A n c l _ HL.out hn).mono ?_
  rintro e w1 ⟨b, rfl, hb, hC, hB⟩
  have HC := hide hC
  clear hC
  go_wp2_with (fail)
  refine (l1PickInt_any b (some ⟨w1.heap.size, 0, none⟩) 10 10 numsL _ (HC.out.keep ((Below.refl _ _).alloc (Nat.le_refl _) _)) (ints_lit w1 numsL _) (fun _ => lit_apart HC.out) (by omega) (by omega)).mono ?_
  rintro e w2 ⟨k, hk, rfl, hC2, ho2⟩
  have hB2 := Only.below (hB.alloc (by have := hB.size; omega) _) (by have := hB.size; simp; omega) ho2 (fun j hj => by omega)
  clear ho2 hC2
  have hs := numsL_bd k hk
  generalize numsL[k]?.getD 0 = x at *
  go_wp2
  go_ret
  exact ⟨x, rfl, hs.1, hs.2, hB2⟩

set_option maxHeartbeats 4000000 in
theorem drawPutText_any (A : Option Addr) (n c : Nat) (l : List UInt8) (w : World) (hl : Bytes w A n l) (hn : n ≤ 1048576) :
    Calls Tryd.prog 55 #[.slice A n c] w fun e w' => ∃ s : ByteArray, e = .returned (.string s) ∧ s.size ≤ 9 ∧ Below w.heap.size w w' := by
  have HL := hide hl
  clear hl
  go_enter Tryd.func55, Tryd.ntmps55
  go_wp2_with (fail)
  refine (l1New_any A n c l _ HL.out hn).mono ?_
  rintro e w1 ⟨b, rfl, hb, hC, hB⟩
  have HC := hide hC
  clear hC
  go_wp2_with (fail)
  refine (l1Pick_any b (some ⟨w1.heap.size, 0, none⟩) 4 4 textsL _ (HC.out.keep ((Below.refl _ _).alloc (Nat.le_refl _) _)) (strs_lit w1 textsL _) (fun _ => lit_apart HC.out) (by omega) (by omega)).mono ?_
  rintro e w2 ⟨k, hk, rfl, hC2, ho2⟩
  have hB2 := Only.below (hB.alloc (by have := hB.size; omega) _) (by have := hB.size; simp; omega) ho2 (fun j hj => by omega)
  clear ho2 hC2
  have hs := textsL_size k hk
  generalize textsL[k]?.getD ByteArray.empty = s at *
  go_wp2
  go_ret
  exact ⟨s, rfl, hs, hB2⟩

theorem at0_any (A : Option Addr) (n c : Nat) (l : List UInt8) (i : Nat) (w : World) (hl : Bytes w A n l) (hn : n ≤ 1048576) (hi : i ≤ 1000) :
    Calls Tryd.prog 60 #[.slice A n c, .int .i64 i] w fun e w' => ∃ x : Int, e = .returned (.int .i64 x) ∧ 0 ≤ x ∧ x ≤ 255 ∧ w' = w := by
  have HL := hide hl
  clear hl
  go_enter Tryd.func60, Tryd.ntmps60
  by_cases h : i < n
  · obtain ⟨ad, rfl, hub, hcell⟩ := HL.out.at_ h
    have hb := (l[i]?.getD 0).toNat_lt
    generalize (l[i]?.getD 0).toNat = y at *
    go_wp2
    go_ret
    exact ⟨y, rfl, by omega, by omega, rfl⟩
  · have h0 : 0 ≤ ((i : Int) * 7 + n) % 256 ∧ ((i : Int) * 7 + n) % 256 ≤ 255 := by omega
    go_wp2
    go_ret
    refine ⟨_, rfl, ?_, ?_, rfl⟩
    · go_num
    · go_num
end Go.Proofs.YtohodehmidbmlaaDoor
