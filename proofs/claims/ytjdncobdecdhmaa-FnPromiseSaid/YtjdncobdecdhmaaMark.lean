/-
  Contracts: the text of a mark.
-/
import Derived.Test.YtjdncobdecdhmaaInts
import Derived.Laws.IdiomStrings
namespace Go.Proofs.Ytjdncobdecdhmaa
open Go.RowKit

/-- The decimal digits of n ahead of acc. -/
def decTo (n : Nat) (acc : List UInt8) : List UInt8 := if h : n = 0 then acc else decTo (n / 10) (UInt8.ofNat (48 + n % 10) :: acc)
  termination_by n
  decreasing_by omega
theorem decTo_zero (acc : List UInt8) : decTo 0 acc = acc := by rw [decTo]; simp
theorem decTo_pos {n : Nat} (h : 0 < n) (acc : List UInt8) : decTo n acc = decTo (n / 10) (UInt8.ofNat (48 + n % 10) :: acc) := by
  rw [decTo]; simp [show n ≠ 0 by omega]
def markB (k : Int) : ByteArray := if 0 < k then ⟨(109 :: decTo k.toNat []).toArray⟩ else ⟨#[109, 48]⟩

theorem size_le_of {S : ByteArray} {j K : Nat} (h : S.size + j ≤ K) (hj : 0 < j) : S.size + 1 + j / 10 ≤ K := by omega
theorem dec_step {S : ByteArray} {j K : Nat} (hj : 0 < j) (h : decTo j S.data.toList = decTo K []) (T : ByteArray) (hT : T.data.toList = UInt8.ofNat (48 + j % 10) :: S.data.toList) :
    decTo (j / 10) T.data.toList = decTo K [] := by rw [hT, ← decTo_pos hj, h]
theorem append_one (S : ByteArray) (c : UInt8) : ((⟨#[c]⟩ : ByteArray) ++ S).data.toList = c :: S.data.toList := by
  show ((⟨#[c]⟩ : ByteArray) ++ S).data.toList = _
  rw [ByteArray.data_append]
  simp

/-- 'string([]byte{x})' -/
theorem conv_one (w : World) (x : Int) (h0 : 0 ≤ x) (h1 : x ≤ 255) :
    (convert 22 9 (.slice (some ⟨w.heap.size, 0, none⟩) 1 1)).run Try.prog (w.alloc (.cells #[.int .u8 x] 5)) = .ok (.string ⟨#[UInt8.ofNat x.toNat]⟩) (w.alloc (.cells #[.int .u8 x] 5)) := by
  have h := run_convert_bytes_back (P := Try.prog) (w.alloc (.cells #[.int .u8 x] 5)) 22 9 5 ⟨w.heap.size, 0, none⟩ 1 [UInt8.ofNat x.toNat] Try.underlying22 Try.underlying5 Try.underlying9 (fun j hj => by
    have hj0 : j = 0 := by simp at hj; omega
    subst hj0
    have e : (((UInt8.ofNat x.toNat).toNat : Nat) : Int) = x := by simp; omega
    rw [List.getElem_cons_zero, e]
    have hadd : (⟨w.heap.size, 0, none⟩ : Addr).add 0 = ⟨w.heap.size, 0, none⟩ := by simp [Addr.add]
    rw [hadd, cell_of_row _ w.heap.size 0 #[.int .u8 x] 5 (0, 0) (heap_alloc_new w _)]
    rfl)
  exact h

set_option maxRecDepth 100000 in
set_option maxHeartbeats 400000 in
theorem markText_any (k : Int) (w : World) (h1 : k ≤ 1099511627776) :
    Calls Try.prog 87 #[.int .i64 k] w fun e w' => e = .returned (.string (markB k)) ∧ Below w.heap.size w w' := by
  by_cases h0 : 0 < k
  · obtain ⟨K, rfl⟩ := Int.eq_ofNat_of_zero_le (show 0 ≤ k by omega)
    go_enter Try.func87, Try.ntmps87
    go_wp2
    go_loopw [0, 3] (fun v s wr => ∃ (j : Nat) (S : ByteArray), v = .int .i64 j ∧ s = .string S ∧ S.size + j ≤ K ∧ Hid (decTo j S.data.toList = decTo K []) ∧ Below w.heap.size w wr) (fun v _ _ => (intOf v).toNat)
    case atStart => exact ⟨K, ⟨#[]⟩, rfl, rfl, Nat.le_of_eq (Nat.zero_add K), rfl, Below.refl _ _⟩
    case round =>
      obtain ⟨j, S, rfl, rfl, hj, hd, hbel⟩ := hrel
      by_cases hp : 0 < j
      · have hS := size_le_of hj hp
        have hm : (j : Int) % 10 < 10 := Int.emod_lt_of_pos _ (by omega)
        have hm0 : 0 ≤ (j : Int) % 10 := Int.emod_nonneg _ (by omega)
        have hcv := fun wx => conv_one wx (48 + (j : Int) % 10) (by omega) (by omega)
        go_wp2
        go_roundw
        case rel =>
          refine ⟨j / 10, ⟨#[48 + UInt8.ofNat (j % 10)]⟩ ++ S, by rw [Int.natCast_ediv]; rfl, rfl, ?_, ?_, hbel.alloc hbel.size _⟩
          · rw [ByteArray.size_append]
            show 1 + S.size + j / 10 ≤ K
            omega
          · refine dec_step hp hd.out _ ?_
            rw [append_one]
            congr 1
            apply UInt8.toNat_inj.1
            simp
        case measure => simp only [intOf]; omega
      · obtain rfl : j = 0 := by omega
        have hd0 := hide (show S.data.toList = decTo K [] by rw [← hd.out, decTo_zero])
        go_wp2
        go_ret
        refine ⟨?_, hbel⟩
        have e : markB (K : Int) = ⟨#[109]⟩ ++ S := by
          rw [markB, if_pos h0]
          apply ByteArray.ext
          apply Array.toList_inj.1
          rw [append_one, hd0.out]
          simp
        rw [e]
        rfl
  · have e : markB k = ⟨#[109, 48]⟩ := by rw [markB, if_neg h0]
    have E := hide e
    clear e
    go_enter Try.func87, Try.ntmps87
    go_wp2
    go_ret
    exact ⟨by rw [E.out]; rfl, Below.refl _ _⟩
end Go.Proofs.Ytjdncobdecdhmaa
