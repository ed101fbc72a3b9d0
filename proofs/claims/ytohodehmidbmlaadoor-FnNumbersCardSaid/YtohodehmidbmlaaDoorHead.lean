/-
  The head of the translation, read once: three facts of the program that every row asks. No condition.
-/
import Derived.Test.YtohodehmidbmlaaDoorRows
namespace Go.Proofs.YtohodehmidbmlaaDoor
set_option maxRecDepth 100000

theorem words_cons (c : Char) (hc : c ≠ Char.ofNat 32) (r : List Char) (w : List Char) (ws : List (List Char)) (h : wordsSigns r = w :: ws) : wordsSigns (c :: r) = (c :: w) :: ws := by
  unfold wordsSigns
  split
  · rename_i e; simp at e
  · rename_i r e
    simp only [List.cons.injEq] at e
    exact absurd e.1 hc
  · rename_i c r _ e
    simp only [List.cons.injEq] at e
    obtain ⟨rfl, rfl⟩ := e
    rw [h]
theorem words_behind : ∀ (h : List Nat) (t : List Nat), (∀ x ∈ h, Char.ofNat x ≠ Char.ofNat 32) → wordsSigns ((h ++ 32 :: t).map Char.ofNat) = h.map Char.ofNat :: wordsSigns (t.map Char.ofNat)
  | [], t, _ => rfl
  | x :: h, t, hx => words_cons _ (hx x (by simp)) _ _ _ (words_behind h t fun y hy => hx y (by simp [hy]))

def headA : List Nat := [104, 97, 114, 110, 101, 115, 115]
def headB : List Nat := [98, 48, 102, 101, 55, 101, 55, 55, 100, 50, 102, 98, 56, 102, 50, 49, 55, 53, 56, 55, 99, 97, 50, 100, 97, 98, 101, 102, 100, 98, 100, 52, 55, 101, 54, 99, 56, 52, 55, 100, 101, 97, 56, 54, 98, 97, 99, 51, 53, 57, 57, 56, 98, 100, 56, 99, 54, 52, 51, 54, 99, 99, 98, 101]
def headC : List Nat := [99, 117, 116]
def headR : List Nat := [97, 116, 32, 108, 111, 111, 112, 46, 101, 120, 97, 109, 112, 108, 101, 47, 103, 48, 48, 52, 55, 55, 47, 108, 97, 119, 115, 46, 70, 110, 69, 120, 97, 99, 116, 82, 111, 119, 79, 102, 32, 108, 111, 111, 112, 46, 101, 120, 97, 109, 112, 108, 101, 47, 103, 48, 48, 52, 55, 55, 47, 108, 97, 119, 115, 46, 70, 110, 83, 99, 104, 101, 109, 97, 82, 101, 97, 100, 32, 108, 111, 111, 112, 46, 101, 120, 97, 109, 112, 108, 101, 47, 103, 48, 48, 52, 55, 55, 47, 108, 97, 119, 115, 46, 70, 110, 69, 120, 97, 99, 116, 83, 99, 104, 101, 109, 97, 79, 102, 32, 108, 111, 111, 112, 46, 101, 120, 97, 109, 112, 108, 101, 47, 103, 48, 48, 52, 55, 55, 47, 108, 97, 119, 115, 46, 70, 110, 69, 120, 97, 99, 116, 68, 105, 103, 105, 116, 115, 32, 108, 111, 111, 112, 46, 101, 120, 97, 109, 112, 108, 101, 47, 103, 48, 48, 52, 55, 55, 47, 108, 97, 119, 115, 46, 70, 110, 69, 120, 97, 99, 116, 70, 114, 97, 99, 84, 101, 120, 116, 32, 108, 111, 111, 112, 46, 101, 120, 97, 109, 112, 108, 101, 47, 103, 48, 48, 52, 55, 55, 47, 108, 97, 119, 115, 46, 70, 110, 69, 120, 97, 99, 116, 67, 101, 108, 108, 84, 101, 120, 116, 32, 108, 111, 111, 112, 46, 101, 120, 97, 109, 112, 108, 101, 47, 103, 48, 48, 52, 55, 55, 47, 108, 97, 119, 115, 46, 70, 110, 69, 120, 97, 99, 116, 78, 117, 109, 98, 101, 114, 32, 108, 111, 111, 112, 46, 101, 120, 97, 109, 112, 108, 101, 47, 103, 48, 48, 52, 55, 55, 47, 108, 97, 119, 115, 46, 70, 110, 69, 120, 97, 99, 116, 65, 116, 116, 114, 84, 101, 120, 116, 32, 108, 111, 111, 112, 46, 101, 120, 97, 109, 112, 108, 101, 47, 103, 48, 48, 52, 55, 55, 47, 108, 97, 119, 115, 46, 70, 110, 69, 120, 97, 99, 116, 83, 105, 103, 110, 101, 100, 32, 108, 111, 111, 112, 46, 101, 120, 97, 109, 112, 108, 101, 47, 103, 48, 48, 52, 55, 55, 47, 108, 97, 119, 115, 46, 70, 110, 78, 117, 109, 98, 101, 114, 115, 32, 108, 111, 111, 112, 46, 101, 120, 97, 109, 112, 108, 101, 47, 103, 48, 48, 52, 55, 55, 47, 108, 97, 119, 115, 46, 70, 110, 69, 120, 97, 99, 116, 83, 99, 104, 101, 109, 97, 84, 101, 120, 116, 32, 108, 111, 111, 112, 46, 101, 120, 97, 109, 112, 108, 101, 47, 103, 48, 48, 52, 55, 55, 47, 108, 97, 119, 115, 46, 70, 110, 69, 120, 97, 99, 116, 69, 120, 84, 101, 120, 116, 32, 108, 111, 111, 112, 46, 101, 120, 97, 109, 112, 108, 101, 47, 103, 48, 48, 52, 55, 55, 47, 108, 97, 119, 115, 46, 70, 110, 82, 111, 119, 84, 101, 120, 116, 32, 108, 111, 111, 112, 46, 101, 120, 97, 109, 112, 108, 101, 47, 103, 48, 48, 52, 55, 55, 47, 108, 97, 119, 115, 46, 70, 110, 82, 111, 119, 84, 111, 116, 97, 108, 32, 108, 111, 111, 112, 46, 101, 120, 97, 109, 112, 108, 101, 47, 103, 48, 48, 52, 55, 55, 47, 108, 97, 119, 115, 46, 70, 110, 69, 120, 97, 99, 116, 65, 116, 116, 114, 79, 102, 32, 108, 111, 111, 112, 46, 101, 120, 97, 109, 112, 108, 101, 47, 103, 48, 48, 52, 55, 55, 47, 108, 97, 119, 115, 46, 70, 110, 83, 99, 104, 101, 109, 97, 84, 101, 120, 116]
theorem head_eq : Tryd.prog.initOrder = String.ofList ((headA ++ 32 :: (headB ++ 32 :: (headC ++ 32 :: headR))).map Char.ofNat) := by kernel_rfl
theorem head_words : wordsSigns Tryd.prog.initOrder.toList = headA.map Char.ofNat :: headB.map Char.ofNat :: headC.map Char.ofNat :: wordsSigns (headR.map Char.ofNat) := by
  rw [head_eq, String.toList_ofList, words_behind _ _ (by decide), words_behind _ _ (by decide), words_behind _ _ (by decide)]
theorem behind_main (rest : List (List Char)) : behindMainWord (headA.map Char.ofNat :: headB.map Char.ofNat :: headC.map Char.ofNat :: rest) = headC.map Char.ofNat :: rest := by kernel_rfl
theorem strip_none (rest : List (List Char)) : stripLifts liftWords (headC.map Char.ofNat :: rest) = ([], headC.map Char.ofNat :: rest) := by kernel_rfl
theorem not_gc : (headC.map Char.ofNat == "gc".toList) = false := by kernel_rfl
theorem not_spec : (headC.map Char.ofNat == "spec".toList) = false := by kernel_rfl
theorem not_carried : (headC.map Char.ofNat == "carried".toList) = false := by kernel_rfl
theorem is_cut : (headC.map Char.ofNat == "cut".toList) = true := by kernel_rfl
section
variable {P : Program} {rest : List (List Char)} (h : wordsSigns P.initOrder.toList = headA.map Char.ofNat :: headB.map Char.ofNat :: headC.map Char.ofNat :: rest)
include h
theorem make_of : P.make = some .cut := by
  unfold Program.make
  rw [h, behind_main]
  simp only [not_gc, not_spec, is_cut, Bool.or_self, Bool.false_eq_true, if_false, Bool.true_or, if_true]
theorem headLifts_of : P.headLifts = [] := by
  unfold Program.headLifts
  rw [h, behind_main, strip_none]
  simp only [ite_self]
theorem liftsFinal_of : P.liftsFinal = false := by
  unfold Program.liftsFinal
  rw [headLifts_of h, h, behind_main]
  simp only [List.head?_cons, List.contains_nil, Bool.or_false, Option.some_beq_some, not_carried, Bool.false_and]
theorem mayEnter_of (h1 : P.laysLater = false) (h2 : P.bearsReflect = false) (h3 : P.doorFits [] = true) : P.mayEnter = true := by
  unfold Program.mayEnter
  rw [h, behind_main]
  simp only [strip_none, h1, h2, h3, not_gc, not_spec, not_carried, List.head?_cons, Option.some_beq_some, is_cut, List.contains_nil, Bool.not_false, Bool.or_true, Bool.and_self, Bool.false_and, Bool.or_self]
end
theorem make_cut : Tryd.prog.make = some .cut := make_of head_words
theorem liftsFinal_no : Tryd.prog.liftsFinal = false := liftsFinal_of head_words
theorem mayEnter_yes : Tryd.prog.mayEnter = true := mayEnter_of head_words (by kernel_rfl) (by kernel_rfl) (by kernel_rfl)
end Go.Proofs.YtohodehmidbmlaaDoor
