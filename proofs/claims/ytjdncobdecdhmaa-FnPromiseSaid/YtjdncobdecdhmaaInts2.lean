/-
  Contracts of functions on slices of integers, more of them.
-/
import Derived.Test.YtjdncobdecdhmaaInts
import Derived.Test.YtjdncobdecdhmaaScal2
namespace Go.Proofs.Ytjdncobdecdhmaa
open Go.RowKit

set_option maxHeartbeats 400000 in
theorem implBinOf_any (A : Option Addr) (n c : Nat) (l : List Int) (x : Int) (w : World) (hl : Ints w A n l) (hn : n ≤ 2097152) :
    Calls Try.prog 41 #[.slice A n c, .int .i64 x] w fun e w' => e = .returned (.int .i64 (binI l x)) ∧ w = w' := by
  have HL := hide hl
  have hlen : l.length ≤ n := by rw [hl.1]; exact Nat.le_refl _
  clear hl
  go_enter Try.func41, Try.ntmps41
  go_wp2
  go_loop [5, 10] (fun v i => ∃ k : Nat, k ≤ n ∧ i = .int .i64 k ∧ v = .int .i64 (binI (l.take k) x)) (fun _ i => n - (intOf i).toNat)
  case atStart => exact ⟨0, Nat.zero_le _, rfl, rfl⟩
  case round =>
    obtain ⟨k, hk, rfl, rfl⟩ := hrel
    have hb := binI_le (l.take k) x
    have hb2 : (l.take k).length ≤ k := List.length_take_le _ _
    by_cases hlt : k < n
    · obtain ⟨ad, rfl, _, hcell⟩ := (HL.out).at_ hlt
      have HS := hide (binI_step l x k (by have := HL.out.1; omega))
      go_wp2
      all_goals
        go_round
        case rel => exact ⟨k + 1, by omega, by go_num, by rw [HS.out]; first | rw [if_pos ‹_›]; go_num | (rw [if_neg (by omega)]; go_num)⟩
        case measure => simp [intOf]; omega
    · go_wp2
      go_ret
      exact ⟨ret_int (by rw [List.take_of_length_le (by omega)]), rfl⟩


/-- The place of the first of l that meets p, -1 where none does. -/
def idxI {α : Type} (p : α → Bool) (l : List α) : Int := match l.findIdx? p with | some i => i | none => -1
theorem idxI_hit {α : Type} {p : α → Bool} {l : List α} {k : Nat} (d : α) (hkl : k < l.length) (hp : p (l[k]?.getD d) = true) (hno : ∀ x ∈ l.take k, p x = false) : idxI p l = k := by
  have h : l.findIdx? p = some k := by
    rw [List.findIdx?_eq_some_iff_getElem]
    refine ⟨hkl, by rw [List.getElem?_eq_getElem hkl] at hp; exact hp, fun j hj => ?_⟩
    have := hno (l[j]) (by rw [List.mem_take_iff_getElem]; exact ⟨j, by omega, rfl⟩)
    simp [this]
  simp [idxI, h]
theorem none_snoc {α : Type} {p : α → Bool} {l : List α} {k : Nat} (d : α) (hkl : k < l.length) (hp : p (l[k]?.getD d) = false) (hno : ∀ x ∈ l.take k, p x = false) : ∀ x ∈ l.take (k + 1), p x = false := by
  intro x hx
  rw [List.take_succ_eq_append_getElem hkl] at hx
  rw [List.getElem?_eq_getElem hkl] at hp
  rcases List.mem_append.1 hx with h | h
  · exact hno x h
  · simp only [List.mem_singleton] at h; rw [h]; exact hp
theorem idxI_none {α : Type} {p : α → Bool} {l : List α} (h : ∀ x ∈ l, p x = false) : idxI p l = -1 := by
  unfold idxI; rw [List.findIdx?_eq_none_iff.2 h]

set_option maxHeartbeats 400000 in
theorem indexFunc_any (F : FuncId) (p : Int → Bool) (hcf : ∀ (a : Array Value) (w : World), (callFunc F a).run Try.prog w = .ok (.enter F a) w)
    (hF : ∀ (x : Int) (w : World), Calls Try.prog F #[.int .i64 x] w fun e w' => e = .returned (.bool (p x)) ∧ w = w')
    (A : Option Addr) (n c : Nat) (l : List Int) (w : World) (hl : Ints w A n l) (hn : n ≤ 2097152) :
    Calls Try.prog 88 #[.slice A n c, .func (.func F) #[] #[]] w fun e w' => e = .returned (.int .i64 (idxI p l)) ∧ w = w' := by
  have HF := hide hF
  have HL := hide hl
  clear hF hl
  go_enter Try.func88, Try.ntmps88
  go_wp2_with (fail)
  go_loop [8] (fun i => ∃ k : Nat, k ≤ n ∧ i = .int .i64 k ∧ Hid (∀ x ∈ l.take k, p x = false)) (fun i => n - (intOf i).toNat)
  case atStart => exact ⟨0, Nat.zero_le _, rfl, fun x hx => by simp at hx⟩
  case round =>
    obtain ⟨k, hk, rfl, hno⟩ := hrel
    by_cases hlt : k < n
    · obtain ⟨ad, rfl, _, hcell⟩ := (HL.out).at_ hlt
      have hl1 := hide (HL.out).1
      go_wp2_with ((with_reducible refine ((HF.out) _ _).mono ?_); rintro e w' ⟨rfl, rfl⟩)
      · have hp : p (l[k]?.getD 0) = true := by assumption
        go_ret
        refine ⟨ret_int ?_, rfl⟩
        have hkl : k < l.length := by have := hl1.out; omega
        have h : l.findIdx? p = some k := by
          rw [List.findIdx?_eq_some_iff_getElem]
          refine ⟨hkl, by rw [List.getElem?_eq_getElem hkl] at hp; exact hp, fun j hj => ?_⟩
          have := hno.out (l[j]) (by rw [List.mem_take_iff_getElem]; exact ⟨j, by omega, rfl⟩)
          simp [this]
        simp [idxI, h]
      · have hp : p (l[k]?.getD 0) = false := by assumption
        have hn' : Hid (∀ x ∈ l.take (k + 1), p x = false) := by
          intro x hx
          rw [take_snoc_getD l k (by have := hl1.out; omega)] at hx
          rcases List.mem_append.1 hx with h | h
          · exact hno.out x h
          · simp only [List.mem_singleton] at h; rw [h]; exact hp
        clear hno
        go_round
        case rel => exact ⟨k + 1, by omega, by go_num, hn'⟩
        case measure => simp [intOf]; omega
    · go_wp2
      go_ret
      refine ⟨ret_int ?_, rfl⟩
      have h := hno.out
      rw [List.take_of_length_le (by have := (HL.out).1; omega)] at h
      rw [idxI_none h]

theorem idxI_ge {α : Type} {p : α → Bool} {l : List α} : decide (0 ≤ idxI p l) = l.any p := by
  unfold idxI
  cases h : l.findIdx? p with
  | none =>
    have h' := List.findIdx?_eq_none_iff.1 h
    simp only [Int.reduceNeg, Int.reduceLE, decide_false]
    symm
    rw [List.any_eq_false]
    intro x hx; simp [h' x hx]
  | some i =>
    obtain ⟨hi, hp, _⟩ := List.findIdx?_eq_some_iff_getElem.1 h
    have h2 : l.any p = true := List.any_eq_true.2 ⟨l[i], List.getElem_mem hi, hp⟩
    rw [h2]; simp

set_option maxHeartbeats 400000 in
theorem containsFunc_any (F : FuncId) (p : Int → Bool) (hcf : ∀ (a : Array Value) (w : World), (callFunc F a).run Try.prog w = .ok (.enter F a) w)
    (hF : ∀ (x : Int) (w : World), Calls Try.prog F #[.int .i64 x] w fun e w' => e = .returned (.bool (p x)) ∧ w = w')
    (A : Option Addr) (n c : Nat) (l : List Int) (w : World) (hl : Ints w A n l) (hn : n ≤ 2097152) :
    Calls Try.prog 66 #[.slice A n c, .func (.func F) #[] #[]] w fun e w' => e = .returned (.bool (l.any p)) ∧ w = w' := by
  have HF := hide hF
  have HL := hide hl
  clear hF hl
  go_enter Try.func66, Try.ntmps66
  go_wp2_with (go_at_call 88; refine (indexFunc_any F p hcf HF.out A n c l w HL.out hn).mono ?_; rintro e w' ⟨rfl, rfl⟩)
  go_ret
  exact ⟨ret_bool idxI_ge, rfl⟩

/-- A natural number is right. -/
def natOkB (l : List Int) : Bool := decide (l.length ≤ 16) && l.all (fun x => inB x 0 16777215) && !(l.getLast? == some 0)

theorem getLast_of {l : List Int} {n : Nat} (h : n = l.length) (hn : 0 < n) : l.getLast? = some (l[n - 1]?.getD 0) := by
  subst h
  rw [List.getLast?_eq_getElem?, List.getElem?_eq_getElem (by omega)]; rfl

theorem natOkB_all {l : List Int} {n : Nat} (h : n = l.length) (h16 : n ≤ 16) (hall : l.all (fun x => inB x 0 16777215) = true) : natOkB l = !(l.getLast? == some 0) := by
  have : l.length ≤ 16 := by omega
  simp only [natOkB, hall, this, decide_true, Bool.true_and]

end Go.Proofs.Ytjdncobdecdhmaa
