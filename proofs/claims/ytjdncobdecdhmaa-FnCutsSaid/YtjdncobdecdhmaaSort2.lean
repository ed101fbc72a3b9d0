/-
  Contracts: sorting, the program's side.
-/
import Derived.Test.YtjdncobdecdhmaaSort
import Derived.Test.YtjdncobdecdhmaaLaySort
import Derived.Lib.OwnBridge
namespace Go.Proofs.Ytjdncobdecdhmaa
open Go.RowKit Go.Sort
set_option maxRecDepth 100000

theorem grownBy_put {α : Type} [Inhabited α] {enc : α → Value} {w : World} {g n : Nat} {os : Array Obj} (d : Array α) : w.grownBy (grow (putRow enc (Sort.ahead w n) g 0 d) os) (some g) := by
  refine ⟨rfl, rfl, rfl, by simp, fun k hk hne => ?_⟩
  rw [heap_grow_old _ _ (by simpa using hk)]
  have : g ≠ k := fun e => hne (by rw [e])
  simp [putRow, mapBlock, Sort.ahead, Array.getElem?_modify, this]
theorem below_grow (w : World) (os : Array Obj) : Below w.heap.size w (grow w os) := ⟨rfl, rfl, rfl, by simp, fun k hk => heap_grow_old _ _ hk⟩

theorem sortInts_any (B : Nat) (A : Option Addr) (n c : Nat) (l : List Int) (w : World) (hl : w.ownsRow B 3 1 (.slice A n c) n (l.map (Value.int .i64))) (hn : n ≤ 2097152) :
    Calls Try.prog 47 #[.slice A n c] w fun e w' => e = .returned (.tuple #[]) ∧ w'.ownsRow B 3 1 (.slice A n c) n ((sortI l).map (Value.int .i64)) ∧ w.grownBy w' (Value.ownBlock (.slice A n c)) := by
  have hlen : l.length = n := by simpa using hl.1
  by_cases h0 : n = 0
  · subst h0
    have hnil : l = [] := List.eq_nil_of_length_eq_zero hlen
    subst hnil
    have h : Calls Try.prog 47 #[.slice A 0 c] w fun e w' => e = .returned (.tuple #[]) ∧ w' = w := Any.slices_Sort_int_none Try.laysSort A c w
    exact h.mono fun e w' ⟨he, hw⟩ => ⟨he, by subst hw; rw [show sortI [] = [] from List.eq_nil_of_length_eq_zero (sortI_len [])]; exact hl, by subst hw; exact World.grownBy.refl _ _⟩
  · have hnn : Value.slice A n c ≠ .slice none 0 0 := fun e => by injection e with _ e _; exact h0 e
    obtain ⟨g, cap, e, hbg, hgl, hncap, hcm, hlen', hH⟩ := Lib.holds_of_ownsRow hl hnn
    injection e with e1 _ e3
    subst e1 e3 hlen
    have h : Calls Try.prog 47 #[.slice (some ⟨g, 0, none⟩) l.length c] w _ := Any.slices_Sort_int Try.laysSort g 0 c l w hH hgl (by omega)
    refine h.mono fun e w' ⟨he, q, os, hw⟩ => ⟨he, ?_, ?_⟩
    · have h1 := Lib.ownsRow_putRow (q := q) (k := l.length) (ys := sortI l) hl (sortI_len l) (Nat.le_refl _)
      rw [List.take_of_length_le (by rw [sortI_len]; exact Nat.le_refl _)] at h1
      rw [hw]
      exact own_below h1 (below_grow _ _)
    · rw [hw]
      exact grownBy_put _

set_option maxHeartbeats 1000000 in
theorem implSorted_any (A : Option Addr) (n c : Nat) (l : List Int) (w : World) (hl : Ints w A n l) (hn : n ≤ 2097152) :
    Calls Try.prog 14 #[.slice A n c] w fun e w' => ∃ D n' m, e = .returned (.slice D n' m) ∧ OwnI w.heap.size w' (.slice D n' m) (sortI l) ∧ n' = (sortI l).length ∧ Below w.heap.size w w' := by
  have HL := hide hl
  have hlen := hide hl.1
  clear hl
  go_enter Try.func14, Try.ntmps14
  go_wp2_with (fail)
  refine (cloneInts_any A n c l _ HL.out hn).mono ?_
  rintro e w1 ⟨D, m, rfl, ho1, hb1⟩
  go_wp2_with (fail)
  refine (sortInts_any w.heap.size D n m l _ ho1 hn).mono ?_
  rintro e w2 ⟨rfl, ho2, hg2⟩
  have hB := hb1.grown hg2 hb1.size (fun k hk => (ho1.lt k hk).1)
  clear hg2 ho1 hb1
  go_wp2
  go_ret
  refine ⟨_, _, _, rfl, ?_, by rw [sortI_len, hlen.out], hB⟩
  show World.ownsRow _ _ _ _ _ _ _
  rw [sortI_len, ← hlen.out]
  exact ho2
end Go.Proofs.Ytjdncobdecdhmaa
