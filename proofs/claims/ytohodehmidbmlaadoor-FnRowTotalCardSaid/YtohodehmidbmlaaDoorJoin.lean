/-
  Contracts: strings joined.
-/
import Derived.Test.YtohodehmidbmlaaDoorDigits2
import Derived.Test.YtohodehmidbmlaaDoorStrs
import Derived.Test.YtohodehmidbmlaaDoorAttr3
import Derived.Test.YtohodehmidbmlaaDoorLayJoin
namespace Go.Proofs.YtohodehmidbmlaaDoor
open Go.RowKit
set_option maxRecDepth 100000

/-- The strings, with sep between them. -/
def joinB (l : List ByteArray) (sep : ByteArray) : ByteArray := ⟨(Lib.join (l.map (·.data.toList)) sep.data.toList).toArray⟩
theorem joinB_nil (sep : ByteArray) : joinB [] sep = ⟨#[]⟩ := rfl
theorem joinB_list (l : List ByteArray) (sep : ByteArray) : (joinB l sep).data.toList = Lib.join (l.map (·.data.toList)) sep.data.toList := rfl
theorem bytes_ext {a b : ByteArray} (h : a.data.toList = b.data.toList) : a = b := ByteArray.ext (Array.toList_inj.1 h)
theorem joinB_one (x sep : ByteArray) : joinB [x] sep = x := by
  apply bytes_ext
  rw [joinB_list, List.map_cons, List.map_nil, Lib.join_one]
theorem app_list (a b : ByteArray) : (a ++ b).data.toList = a.data.toList ++ b.data.toList := by
  rw [ByteArray.data_append]; simp
theorem joinB_step {l : List ByteArray} {k : Nat} (sep : ByteArray) (hk : k < l.length) (h0 : 0 < k) : joinB (l.take (k + 1)) sep = joinB (l.take k) sep ++ sep ++ (l[k]?.getD ByteArray.empty) := by
  match l, hk with
  | x :: r, hk =>
    obtain ⟨j, rfl⟩ : ∃ j, k = j + 1 := ⟨k - 1, by omega⟩
    have hj : j < r.length := by simpa using hk
    apply bytes_ext
    rw [app_list, app_list, joinB_list, joinB_list, List.take_succ_cons, List.take_succ_cons, List.map_cons, List.map_cons, Lib.join_cons, Lib.join_cons, List.map_take, List.map_take,
      Lib.joinTail_take_succ _ _ j (r[j].data.toList) (by rw [List.getElem?_map, List.getElem?_eq_getElem hj]; rfl), List.getElem?_cons_succ, List.getElem?_eq_getElem hj, Option.getD_some]
    simp only [List.append_assoc]
theorem joinB_first {l : List ByteArray} (sep : ByteArray) (hk : 0 < l.length) : joinB (l.take 1) sep = l[0]?.getD ByteArray.empty := by
  match l, hk with
  | x :: r, _ => exact joinB_one x sep
theorem lens_le {l : List ByteArray} {M : Nat} (h : ∀ s ∈ l, s.size ≤ M) : Lib.lens (l.map (·.data.toList)) ≤ M * l.length := by
  induction l with
  | nil => simp [Lib.lens]
  | cons x l ih =>
    have h1 := ih fun s hs => h s (by simp [hs])
    have h2 : x.data.toList.length ≤ M := h x (by simp)
    simp only [Lib.lens, List.map_cons, List.sum_cons, List.length_cons, Nat.mul_add, Nat.mul_one] at h1 ⊢
    omega
theorem joinB_size {l : List ByteArray} {sep : ByteArray} {M : Nat} (h : ∀ s ∈ l, s.size ≤ M) : (joinB l sep).size ≤ (M + sep.size) * l.length := by
  have e : (joinB l sep).size = (Lib.join (l.map (·.data.toList)) sep.data.toList).length := by simp [joinB, ByteArray.size]
  rw [e]
  match l, h with
  | [], _ => simp [Lib.join_nil]
  | x :: r, h =>
    have h1 := lens_le h
    rw [List.map_cons] at h1 ⊢
    rw [Lib.join_length, List.length_map, List.length_cons, Nat.add_mul]
    have h2 : sep.data.toList.length * r.length ≤ sep.size * (r.length + 1) := Nat.mul_le_mul (Nat.le_refl _) (by omega)
    rw [List.length_cons] at h1
    omega
theorem joinB_small {l : List ByteArray} {sep : ByteArray} (hn : l.length ≤ 100) (h : ∀ s ∈ l, s.size ≤ 4096) (hsep : sep.size ≤ 8) : (joinB l sep).size ≤ 410400 := by
  have h1 := joinB_size (sep := sep) h
  have h2 : (4096 + sep.size) * l.length ≤ 4104 * 100 := Nat.mul_le_mul (by omega) hn
  omega
theorem addr_of_cell {w : World} {ad : Addr} {v : Value} (h : w.cell? ad = some v) : ad = ⟨ad.block, ad.off, none⟩ := by
  obtain ⟨b, o, x⟩ := ad
  rcases x with _ | x
  · rfl
  · unfold World.cell? at h
    simp at h
    split at h <;> cases h
/-- A slice of strings that is not empty, cell by cell. -/
theorem Strs.flat {w : World} {A : Option Addr} {n : Nat} {l : List ByteArray} (h : Strs w A n l) (hn : 0 < n) : ∃ b o, A = some ⟨b, o, none⟩ ∧ b < w.heap.size ∧ ∀ (j : Nat) x, l[j]? = some x → w.cell? ⟨b, o + j, none⟩ = some (.string x) := by
  obtain ⟨ad, rfl, hlt, hc⟩ := h.at_ hn
  have e0 : ad.add 0 = ad := by simp [Addr.add]
  rw [e0] at hc
  have e := addr_of_cell hc
  refine ⟨ad.block, ad.off, by rw [← e], hlt, fun j x hx => ?_⟩
  have hj : j < l.length := (List.getElem?_eq_some_iff.1 hx).1
  obtain ⟨ad', e', _, hc'⟩ := h.at_ (k := j) (by have := h.1; omega)
  injection e' with e'
  subst e'
  rw [hx, Option.getD_some] at hc'
  rw [← hc']
  congr 1
  unfold Addr.add
  split
  · rename_i hj0
    subst hj0
    exact e.symm
  · rfl
theorem join_any (A : Option Addr) (n c : Nat) (l : List ByteArray) (sep : ByteArray) (w : World) (hl : Strs w A n l) (hn : n ≤ 100) (hc : n ≤ c) (hs : ∀ s ∈ l, s.size ≤ 4096) (hsep : sep.size ≤ 8) :
    Calls Tryd.prog 102 #[.slice A n c, .string sep] w fun e w' => e = .returned (.string (joinB l sep)) ∧ Below w.heap.size w w' := by
  have hlen := hl.1
  by_cases h0 : n = 0
  · subst h0
    have hnil : l = [] := List.eq_nil_of_length_eq_zero hlen.symm
    subst hnil
    exact (Tryd.strings_Join_none A c sep w).mono fun e w' ⟨he, hw⟩ => ⟨he, hw ▸ Below.refl _ _⟩
  · obtain ⟨b, o, rfl, hb, hcells⟩ := Strs.flat hl (by omega)
    subst hlen
    have hsz := joinB_small hn hs hsep
    exact Tryd.strings_Join b o c l sep w hcells hb (by omega) hc (by
      have e : (joinB l sep).size = (Lib.join (l.map (·.data.toList)) sep.data.toList).length := by simp [joinB, ByteArray.size]
      omega)

set_option maxHeartbeats 1000000 in
theorem l5Join_any (A : Option Addr) (n c : Nat) (l : List ByteArray) (sep : ByteArray) (w : World) (hl : Strs w A n l) (hn : n ≤ 100) (hs : ∀ s ∈ l, s.size ≤ 4096) (hsep : sep.size ≤ 8) :
    Calls Tryd.prog 118 #[.slice A n c, .string sep] w fun e w' => e = .returned (.string (joinB l sep)) ∧ w = w' := by
  have HL := hide hl
  have hlen := hide hl.1
  have HS := hide hs
  clear hl hs
  go_enter Tryd.func118, Tryd.ntmps118
  go_wp2
  go_loop [5, 6] (fun v i => ∃ (k : Nat) (S : ByteArray), k ≤ n ∧ i = .int .i64 k ∧ v = .string S ∧ S.size ≤ 4104 * k ∧ Hid (S = joinB (l.take k) sep)) (fun _ i => n - (intOf i).toNat)
  case atStart => exact ⟨0, ⟨#[]⟩, Nat.zero_le _, rfl, rfl, by simp [ByteArray.size], rfl⟩
  case round =>
    obtain ⟨k, S, hk, rfl, rfl, hS, hJ⟩ := hrel
    by_cases hlt : k < n
    · obtain ⟨ad, rfl, _, hcell⟩ := (HL.out).at_ hlt
      have hkl := hide (show k < l.length by have := hlen.out; omega)
      obtain ⟨X, hX⟩ : ∃ X, X = l[k]?.getD ByteArray.empty := ⟨_, rfl⟩
      have hXs : X.size ≤ 4096 := by
        rw [hX, List.getElem?_eq_getElem hkl.out]
        exact HS.out _ (List.getElem_mem hkl.out)
      rw [← hX] at hcell
      have HX := hide hX
      clear hX
      by_cases h0 : 0 < k
      · have hst := hide (show S ++ sep ++ X = joinB (l.take (k + 1)) sep by rw [joinB_step sep hkl.out h0, ← hJ.out, HX.out])
        have hz : (S ++ sep ++ X).size ≤ 4104 * (k + 1) := by rw [ByteArray.size_append, ByteArray.size_append]; omega
        go_wp2
        go_round
        case rel => exact ⟨k + 1, _, by omega, by go_num, rfl, hz, hst.out⟩
        case measure => simp [intOf]; omega
      · obtain rfl : k = 0 := by omega
        rw [show ad.add 0 = ad by simp [Addr.add]] at hcell
        have hS0 := hide (show S = ⟨#[]⟩ by rw [hJ.out]; rfl)
        have hst := hide (show S ++ X = joinB (l.take (0 + 1)) sep by
          rw [joinB_first sep hkl.out, hS0.out, HX.out]
          apply bytes_ext
          rw [app_list]
          rfl)
        have hz : (S ++ X).size ≤ 4104 * (0 + 1) := by rw [ByteArray.size_append]; omega
        go_wp2
        go_round
        case rel => exact ⟨0 + 1, _, by omega, by go_num, rfl, hz, hst.out⟩
        case measure => simp [intOf]; omega
    · obtain rfl : k = n := by omega
      have hfin := hide (show joinB l sep = S by rw [hJ.out, List.take_of_length_le (by have := hlen.out; omega)])
      go_wp2
      go_ret
      exact ⟨by rw [hfin.out]; rfl, rfl⟩
end Go.Proofs.YtohodehmidbmlaaDoor
