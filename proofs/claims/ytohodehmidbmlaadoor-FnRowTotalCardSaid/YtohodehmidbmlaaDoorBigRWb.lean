/-
  Proved: the law FnRowTotal returns true for every input that the row speaks of, and every argument reads as before. No condition.
-/
import Derived.Test.YtohodehmidbmlaaDoorBigRowA
import Derived.Test.YtohodehmidbmlaaDoorExOk2
import Derived.Test.YtohodehmidbmlaaDoorEx2
import Derived.Test.YtohodehmidbmlaaDoorRows
import Derived.Test.YtohodehmidbmlaaDoorCards
import Derived.Test.YtohodehmidbmlaaDoorDoor
import Derived.Test.YtohodehmidbmlaaDoorTie
import Derived.SevenTiedAt
import Derived.Test.YtohodehmidbmlaaDoorOpen
namespace Go.Proofs.YtohodehmidbmlaaDoor
open Go.RowKit
set_option maxRecDepth 100000

theorem big_is (A : Option Addr) (n c : Nat) (w : World) :
    Calls Tryd.prog 31 #[.slice A n c] w fun e w' => e = .returned (.bool (decide (1048576 < (n : Int)))) ∧ w' = w := by
  go_enter Tryd.func31, Tryd.ntmps31
  go_wp2
  go_ret
  exact ⟨rfl, rfl⟩
/-- A row that was read. -/
def ReadR (E : ExD) (a b : Int) (w : World) (e : Ending) (w' : World) : Prop := ∃ x0 x1, e = .returned (.tuple #[.agg #[x0, x1], .int .i64 a, .int .i64 b]) ∧ ExO w.heap.size w'.heap.size w' x0 x1 E ∧ Below w.heap.size w w'
theorem ex_same (E : ExD) : exSameB E E = true := by simp [exSameB]
theorem back_bytes (s : ByteArray) : (⟨s.data.toList.toArray⟩ : ByteArray) = s := by cases s; rfl

set_option maxHeartbeats 2000000 in
theorem fnRowTotal_walk (w : World) (A : Option Addr) (n c : Nat) (l : List UInt8) (_ : n ≤ maxLen) (hl : Bytes w A n l) (hd : DoorW w) :
    Calls Tryd.prog 16 #[.slice A n c] w fun e w' => e = .returned (.bool true) ∧ Below w.heap.size w w' := by
  have HL := hide hl
  have HD := hide hd
  clear hl hd
  by_cases hbig : (1048576 : Int) < n
  · have hd : decide (1048576 < (n : Int)) = true := decide_eq_true hbig
    go_enter Tryd.func16, Tryd.ntmps16
    go_wp2_with (fail)
    refine (big_is A n c _).mono ?_
    rintro e w1 ⟨rfl, rfl⟩
    rw [hd]
    go_wp2
    go_ret
    exact ⟨rfl, Below.refl _ _⟩
  have hd : decide (1048576 < (n : Int)) = false := decide_eq_false hbig
  have hn2 : n ≤ 1048576 := by omega
  go_enter Tryd.func16, Tryd.ntmps16
  go_wp2_with (fail)
  refine (big_is A n c _).mono ?_
  rintro e w1 ⟨rfl, rfl⟩
  rw [hd]
  clear hd hbig
  go_wp2_with (fail)
  refine (drawRowOf_any A n c l _ HL.out hn2).mono ?_
  rintro e w2 ⟨x0, x1, D2, n2, m2, pl, rfl, ⟨d, hM⟩, hP, hp, hB⟩
  have HM := hide hM
  obtain ⟨A1, n1, c1, D1, m1, k1, rfl, rfl, hMl, -⟩ := hM
  have HNA := hide hMl.1
  have hal : Below w2.heap.size w2 (w2.alloc (.cells #[.slice A1 n1 c1, .slice D1 m1 k1] 35)) := (Below.refl _ _).alloc (Nat.le_refl _) _
  have b1 := BoxW.new w2 (.slice A1 n1 c1) (.slice D1 m1 k1) 35
  obtain ⟨W3, hW3⟩ : ∃ W, W = w2.alloc (.cells #[.slice A1 n1 c1, .slice D1 m1 k1] 35) := ⟨_, rfl⟩
  rw [← hW3] at hal b1
  replace hB := bthen hB hal
  replace HM := hide (HM.out.keep hal)
  have HP := hide (hP.keep hal)
  have HX := hide b1
  have HW := hide hW3
  obtain ⟨row, hrow⟩ : ∃ row : ByteArray, row = ⟨pl.toArray⟩ := ⟨_, rfl⟩
  obtain ⟨E, hE⟩ : ∃ E, E = (rowOf d row).1 := ⟨_, rfl⟩
  obtain ⟨a, ha⟩ : ∃ a, a = (rowOf d row).2.1 := ⟨_, rfl⟩
  obtain ⟨b, hb'⟩ : ∃ b, b = (rowOf d row).2.2 := ⟨_, rfl⟩
  have hRO := hide (show ∀ (W : World) (x0 x1 : Value), SchemaM W x0 x1 d → Bytes W D2 n2 pl → DoorW W → Calls Tryd.prog 23 #[.agg #[x0, x1], .slice D2 n2 m2] W (ReadR E a b W) from fun W x0 x1 h1 h2 h3 => by
    have := implRowOf_any x0 x1 d D2 n2 m2 pl W h1 h2 hp h3
    unfold RowPost at this
    rw [← hrow, ← hE, ← ha, ← hb'] at this
    exact this)
  have hLW := rowOf_law d row
  rw [← hE, ← ha, ← hb'] at hLW
  clear hE ha hb' hrow hal b1 hW3 hP hMl HL
  obtain ⟨x0, x1, f0, f1, xl⟩ := HX.out
  rw [HW.out] at x0 x1 f0 f1 xl
  go_wp2_with (fail)
  rw [← HW.out]
  refine (hRO.out _ _ _ HM.out HP.out (HD.out.keep hB)).mono ?_
  rintro e w4 ⟨u0, u1, rfl, ho, hb⟩
  clear x0 x1 f0 f1 xl hRO HP HW
  have HF := hide ho.m
  obtain ⟨F, fn, fc, rfl, rfl, -⟩ := ho
  have hal : Below w4.heap.size w4 (w4.alloc (.cells #[.slice F fn fc, .int .i64 E.cls] 30)) := (Below.refl _ _).alloc (Nat.le_refl _) _
  have hb9 := bthen hb hal
  have HFN := hide (show fn = E.bins.length from by
    obtain ⟨F', fn', fc', e1, -, h3, -⟩ := HF.out
    injection e1 with _ e2 _
    rw [e2]; exact h3.1)
  replace hB := bthen hB hb9
  replace HM := hide (HM.out.keep hb9)
  replace HX := hide (HX.out.keep hb9)
  replace HF := hide (HF.out.keep hal)
  have hZ := BoxW.new w4 (.slice F fn fc) (.int .i64 E.cls) 30
  obtain ⟨W5, hW5⟩ : ∃ W, W = w4.alloc (.cells #[.slice F fn fc, .int .i64 E.cls] 30) := ⟨_, rfl⟩
  rw [← hW5] at hB HM HX HF hZ
  have HZ := hide hZ
  have HW5 := hide hW5
  clear hal hb9 hb hZ hW5
  obtain ⟨x0, x1, f0, f1, xl⟩ := HX.out
  obtain ⟨z0, z1, h0, h1, zl⟩ := HZ.out
  rw [HW5.out] at x0 x1 f0 f1 xl z0 z1 h0 h1 zl
  rcases hLW with ⟨ha0, hb0, hok, hsb⟩ | ⟨hEn, ha1, ha6, hb0, hbx, hiff⟩
  · subst ha0 hb0
    have HOK := hide hok
    have HNE := hide (exT_pos hok)
    clear hok hsb
    go_wp2_with (fail)
    rw [← HW5.out]
    refine (implExOk_any _ _ _ _ d E _ HM.out HF.out).mono ?_
    rintro e w6 ⟨rfl, hb⟩
    rw [HOK.out]
    clear x0 x1 f0 f1 xl z0 z1 h0 h1 zl HW5
    replace hB := bthen hB hb
    replace HM := hide (HM.out.keep hb)
    replace HF := hide (HF.out.keep hb)
    replace HX := hide (HX.out.keep hb)
    replace HZ := hide (HZ.out.keep hb)
    clear hb
    obtain ⟨x0, x1, f0, f1, xl⟩ := HX.out
    obtain ⟨z0, z1, h0, h1, zl⟩ := HZ.out
    go_wp2_with (fail)
    refine (implExText_any _ _ _ _ d E _ HM.out HF.out (HD.out.keep hB).tab).mono ?_
    rintro e w7 ⟨rfl, hb⟩
    replace hB := bthen hB hb
    obtain ⟨tx, htx⟩ : ∃ tx, tx = exT d E := ⟨_, rfl⟩
    rw [← htx]
    have q3 : tx.toList.isEmpty = false := by
      rcases h : tx.toList with _ | ⟨x, t⟩
      · exact absurd (str_inj (a := tx) (b := ⟨#[]⟩) (h.trans (by rw [ByteArray.toList_eq]))) (by rw [htx]; exact HNE.out)
      · rfl
    clear htx hb x0 x1 f0 f1 xl z0 z1 h0 h1 zl
    go_wp2
    go_ret
    exact ⟨rfl, hB⟩
  · have hne : ¬ a = 0 := by omega
    have hfn0 : fn = 0 := by rw [HFN.out, hEn]; rfl
    subst hfn0
    have hcl : E.cls = 0 := by rw [hEn]; rfl
    clear HZ HF
    rw [hcl] at x0 x1 f0 f1 xl z0 z1 h0 h1 zl HW5 ⊢
    have q0 : (a == 0) = false := beq_eq_false_iff_ne.2 hne
    clear hEn hne hcl HFN
    have hend : ∀ (W : World), W5 = W → True := fun _ _ => trivial
    clear hend
    cases hsb : schemaB d
    · obtain rfl : a = 1 := hiff.2 hsb
      obtain rfl : b = 0 := by rcases hbx with h | h <;> omega
      have HSB := hide hsb
      clear hsb hiff hbx ha1 ha6 hb0
      go_wp2_with (fail)
      rw [← HW5.out]
      refine (specSchemaOk_any _ _ d _ HM.out).mono ?_
      rintro e w6 ⟨rfl, hb⟩
      rw [HSB.out]
      replace hB := bthen hB hb
      clear hb x0 x1 f0 f1 xl z0 z1 h0 h1 zl
      go_wp2
      go_ret
      exact ⟨rfl, hB⟩
    · have ha1' : ¬ a = 1 := fun e => by rw [hiff.1 e] at hsb; cases hsb
      have q1 : (a == 1) = false := beq_eq_false_iff_ne.2 ha1'
      have HSB := hide hsb
      clear hsb hiff
      by_cases hbz : b = 0
      · subst hbz
        clear hbx ha1' hb0
        go_wp2_with (fail)
        rw [← HW5.out]
        refine (specSchemaOk_any _ _ d _ HM.out).mono ?_
        rintro e w6 ⟨rfl, hb⟩
        rw [HSB.out]
        replace hB := bthen hB hb
        clear hb x0 x1 f0 f1 xl z0 z1 h0 h1 zl
        go_wp2
        go_ret
        exact ⟨rfl, hB⟩
      · have h5 : a = 5 ∧ b < d.attrs.length := by
          rcases hbx with h | h
          · exact absurd h hbz
          · exact h
        obtain ⟨rfl, hbl⟩ := h5
        rw [← HNA.out] at hbl
        have qb : (b == 0) = false := beq_eq_false_iff_ne.2 hbz
        clear hbx ha1' ha1 ha6 hbz
        go_wp2_with (fail)
        rw [← HW5.out]
        refine (specSchemaOk_any _ _ d _ HM.out).mono ?_
        rintro e w6 ⟨rfl, hb⟩
        rw [HSB.out]
        replace hB := bthen hB hb
        clear hb x0 x1 f0 f1 xl z0 z1 h0 h1 zl
        go_wp2
        go_ret
        exact ⟨rfl, hB⟩
end Go.Proofs.YtohodehmidbmlaaDoor
namespace Go.Proofs.YtohodehmidbmlaaDoor
set_option maxRecDepth 100000

theorem words_cons (c : Char) (hc : c ≠ Char.ofNat 32) (r : List Char) (w : List Char) (ws : List (List Char)) (h : wordsSigns r = w :: ws) : wordsSigns (c :: r) = (c :: w) :: ws := by
  unfold wordsSigns
  split
  · rename_i e; simp at e
  · rename_i r e
    simp only [List.cons.injEq] at e
    exact absurd e.1 hc
  · rename_i c r _ e
    simp only [List.cons.injEq] at e
    obtain ⟨rfl, rfl⟩ := e
    rw [h]
theorem words_behind : ∀ (h : List Nat) (t : List Nat), (∀ x ∈ h, Char.ofNat x ≠ Char.ofNat 32) → wordsSigns ((h ++ 32 :: t).map Char.ofNat) = h.map Char.ofNat :: wordsSigns (t.map Char.ofNat)
  | [], t, _ => rfl
  | x :: h, t, hx => words_cons _ (hx x (by simp)) _ _ _ (words_behind h t fun y hy => hx y (by simp [hy]))

def headA : List Nat := [104, 97, 114, 110, 101, 115, 115]
def headB : List Nat := [98, 48, 102, 101, 55, 101, 55, 55, 100, 50, 102, 98, 56, 102, 50, 49, 55, 53, 56, 55, 99, 97, 50, 100, 97, 98, 101, 102, 100, 98, 100, 52, 55, 101, 54, 99, 56, 52, 55, 100, 101, 97, 56, 54, 98, 97, 99, 51, 53, 57, 57, 56, 98, 100, 56, 99, 54, 52, 51, 54, 99, 99, 98, 101]
def headC : List Nat := [99, 117, 116]
def headR : List Nat := [97, 116, 32, 108, 111, 111, 112, 46, 101, 120, 97, 109, 112, 108, 101, 47, 103, 48, 48, 52, 55, 55, 47, 108, 97, 119, 115, 46, 70, 110, 69, 120, 97, 99, 116, 82, 111, 119, 79, 102, 32, 108, 111, 111, 112, 46, 101, 120, 97, 109, 112, 108, 101, 47, 103, 48, 48, 52, 55, 55, 47, 108, 97, 119, 115, 46, 70, 110, 83, 99, 104, 101, 109, 97, 82, 101, 97, 100, 32, 108, 111, 111, 112, 46, 101, 120, 97, 109, 112, 108, 101, 47, 103, 48, 48, 52, 55, 55, 47, 108, 97, 119, 115, 46, 70, 110, 69, 120, 97, 99, 116, 83, 99, 104, 101, 109, 97, 79, 102, 32, 108, 111, 111, 112, 46, 101, 120, 97, 109, 112, 108, 101, 47, 103, 48, 48, 52, 55, 55, 47, 108, 97, 119, 115, 46, 70, 110, 69, 120, 97, 99, 116, 68, 105, 103, 105, 116, 115, 32, 108, 111, 111, 112, 46, 101, 120, 97, 109, 112, 108, 101, 47, 103, 48, 48, 52, 55, 55, 47, 108, 97, 119, 115, 46, 70, 110, 69, 120, 97, 99, 116, 70, 114, 97, 99, 84, 101, 120, 116, 32, 108, 111, 111, 112, 46, 101, 120, 97, 109, 112, 108, 101, 47, 103, 48, 48, 52, 55, 55, 47, 108, 97, 119, 115, 46, 70, 110, 69, 120, 97, 99, 116, 67, 101, 108, 108, 84, 101, 120, 116, 32, 108, 111, 111, 112, 46, 101, 120, 97, 109, 112, 108, 101, 47, 103, 48, 48, 52, 55, 55, 47, 108, 97, 119, 115, 46, 70, 110, 69, 120, 97, 99, 116, 78, 117, 109, 98, 101, 114, 32, 108, 111, 111, 112, 46, 101, 120, 97, 109, 112, 108, 101, 47, 103, 48, 48, 52, 55, 55, 47, 108, 97, 119, 115, 46, 70, 110, 69, 120, 97, 99, 116, 65, 116, 116, 114, 84, 101, 120, 116, 32, 108, 111, 111, 112, 46, 101, 120, 97, 109, 112, 108, 101, 47, 103, 48, 48, 52, 55, 55, 47, 108, 97, 119, 115, 46, 70, 110, 69, 120, 97, 99, 116, 83, 105, 103, 110, 101, 100, 32, 108, 111, 111, 112, 46, 101, 120, 97, 109, 112, 108, 101, 47, 103, 48, 48, 52, 55, 55, 47, 108, 97, 119, 115, 46, 70, 110, 78, 117, 109, 98, 101, 114, 115, 32, 108, 111, 111, 112, 46, 101, 120, 97, 109, 112, 108, 101, 47, 103, 48, 48, 52, 55, 55, 47, 108, 97, 119, 115, 46, 70, 110, 69, 120, 97, 99, 116, 83, 99, 104, 101, 109, 97, 84, 101, 120, 116, 32, 108, 111, 111, 112, 46, 101, 120, 97, 109, 112, 108, 101, 47, 103, 48, 48, 52, 55, 55, 47, 108, 97, 119, 115, 46, 70, 110, 69, 120, 97, 99, 116, 69, 120, 84, 101, 120, 116, 32, 108, 111, 111, 112, 46, 101, 120, 97, 109, 112, 108, 101, 47, 103, 48, 48, 52, 55, 55, 47, 108, 97, 119, 115, 46, 70, 110, 82, 111, 119, 84, 101, 120, 116, 32, 108, 111, 111, 112, 46, 101, 120, 97, 109, 112, 108, 101, 47, 103, 48, 48, 52, 55, 55, 47, 108, 97, 119, 115, 46, 70, 110, 82, 111, 119, 84, 111, 116, 97, 108, 32, 108, 111, 111, 112, 46, 101, 120, 97, 109, 112, 108, 101, 47, 103, 48, 48, 52, 55, 55, 47, 108, 97, 119, 115, 46, 70, 110, 69, 120, 97, 99, 116, 65, 116, 116, 114, 79, 102, 32, 108, 111, 111, 112, 46, 101, 120, 97, 109, 112, 108, 101, 47, 103, 48, 48, 52, 55, 55, 47, 108, 97, 119, 115, 46, 70, 110, 83, 99, 104, 101, 109, 97, 84, 101, 120, 116]
theorem head_eq : Tryd.prog.initOrder = String.ofList ((headA ++ 32 :: (headB ++ 32 :: (headC ++ 32 :: headR))).map Char.ofNat) := by kernel_rfl
theorem head_words : wordsSigns Tryd.prog.initOrder.toList = headA.map Char.ofNat :: headB.map Char.ofNat :: headC.map Char.ofNat :: wordsSigns (headR.map Char.ofNat) := by
  rw [head_eq, String.toList_ofList, words_behind _ _ (by decide), words_behind _ _ (by decide), words_behind _ _ (by decide)]
theorem behind_main (rest : List (List Char)) : behindMainWord (headA.map Char.ofNat :: headB.map Char.ofNat :: headC.map Char.ofNat :: rest) = headC.map Char.ofNat :: rest := by kernel_rfl
theorem strip_none (rest : List (List Char)) : stripLifts liftWords (headC.map Char.ofNat :: rest) = ([], headC.map Char.ofNat :: rest) := by kernel_rfl
theorem not_gc : (headC.map Char.ofNat == "gc".toList) = false := by kernel_rfl
theorem not_spec : (headC.map Char.ofNat == "spec".toList) = false := by kernel_rfl
theorem not_carried : (headC.map Char.ofNat == "carried".toList) = false := by kernel_rfl
theorem is_cut : (headC.map Char.ofNat == "cut".toList) = true := by kernel_rfl
section
variable {P : Program} {rest : List (List Char)} (h : wordsSigns P.initOrder.toList = headA.map Char.ofNat :: headB.map Char.ofNat :: headC.map Char.ofNat :: rest)
include h
theorem make_of : P.make = some .cut := by
  unfold Program.make
  rw [h, behind_main]
  simp only [not_gc, not_spec, is_cut, Bool.or_self, Bool.false_eq_true, if_false, Bool.true_or, if_true]
theorem headLifts_of : P.headLifts = [] := by
  unfold Program.headLifts
  rw [h, behind_main, strip_none]
  simp only [ite_self]
theorem liftsFinal_of : P.liftsFinal = false := by
  unfold Program.liftsFinal
  rw [headLifts_of h, h, behind_main]
  simp only [List.head?_cons, List.contains_nil, Bool.or_false, Option.some_beq_some, not_carried, Bool.false_and]
theorem mayEnter_of (h1 : P.laysLater = false) (h2 : P.bearsReflect = false) (h3 : P.doorFits [] = true) : P.mayEnter = true := by
  unfold Program.mayEnter
  rw [h, behind_main]
  simp only [strip_none, h1, h2, h3, not_gc, not_spec, not_carried, List.head?_cons, Option.some_beq_some, is_cut, List.contains_nil, Bool.not_false, Bool.or_true, Bool.and_self, Bool.false_and, Bool.or_self]
end
theorem make_cut : Tryd.prog.make = some .cut := make_of head_words
theorem liftsFinal_no : Tryd.prog.liftsFinal = false := liftsFinal_of head_words
theorem mayEnter_yes : Tryd.prog.mayEnter = true := mayEnter_of head_words (by kernel_rfl) (by kernel_rfl) (by kernel_rfl)
end Go.Proofs.YtohodehmidbmlaaDoor
namespace Go.Proofs.YtohodehmidbmlaaDoor
set_option maxRecDepth 100000
theorem main_sum : isSumSigns (headB.map Char.ofNat) = true := by kernel_rfl
theorem main_harness : (headA.map Char.ofNat == "harness".toList) = true := by kernel_rfl
theorem main_of {P : Program} {rest : List (List Char)} (h : wordsSigns P.initOrder.toList = headA.map Char.ofNat :: headB.map Char.ofNat :: rest) : P.mainIs = some (true, headB.map Char.ofNat) := by
  unfold Program.mainIs
  rw [h]
  simp only [main_sum, main_harness, Bool.not_true, Bool.false_eq_true, if_false, if_true]
theorem main_word : Rows.fnExactDigitsCard.stood.harness = (true, String.ofList (headB.map Char.ofNat)) := by kernel_rfl
theorem main_is : Tryd.prog.mainIs = some (Rows.fnExactDigitsCard.stood.harness.1, Rows.fnExactDigitsCard.stood.harness.2.toList) := by
  rw [main_word, main_of head_words]
  simp only [String.toList_ofList]
end Go.Proofs.YtohodehmidbmlaaDoor
namespace Go.Proofs.YtohodehmidbmlaaDoor.fnRowTotal
open Go.ChangeShapes Go.WideShapes Go.ChangeAt Go.RowKit
open Go.ChangeMaps (open_string)
set_option linter.unusedVariables false
set_option maxRecDepth 100000


theorem lifted (os : Os) (started : os.Started) (H : Type) (enc : TypeId × Value → H) :
    ReturnsInHanded {} Tryd.checked os 16 .any (fun w args => (Rows.fnRowTotalSpec.pre enc Tryd.prog Tryd.f16 [] false w args ∧ laidMetH Tryd.prog laid5 w) ∧ sizedMet enc Tryd.prog Tryd.f16 (OpenSpec.ofChange Rows.fnRowTotalSpec) false w args) (Rows.fnRowTotalSpec.post enc Tryd.prog Tryd.f16 false true false false) := by
  refine returnsInHanded_of_change_and (C := Tryd.checked) (X := fun w _ => laidMetH Tryd.prog laid5 w) (fun _ _ _ hh h => h.of_heap hh) own started (by kernel_rfl) Tryd.func16
    (ChangeSpec.witness_shaped (enc := enc) (C := Tryd.checked) (os := os) (X := fun w _ => laidMetH Tryd.prog laid5 w) false (World.doorLaid Tryd.prog 400 os) #[.slice none 0 0] 8 rfl (door_shaped os _) (by kernel_rfl) (by kernel_rfl) (by kernel_rfl) (door_met5 os _)) ?_
  intro W base args ds gs before hval0 hW hcnd _ hL _
  have hval : ∀ (j : Nat) t v, Tryd.f16.params[j]? = some t → args[j]? = some v → Value.okWide Tryd.prog W .any base t v := hval0
  have hW' := hW
  obtain ⟨p, q, hA0, hV, rfl, hfz, hnd⟩ := hW
  have hA : DataW.TrodAll enc Tryd.prog W 0 (fun _ => true) true Tryd.f16.params.toList args.toList ds p := hA0
  rw [Tryd.params16] at hA hval
  obtain ⟨v0, vs0, d0, ds0, p0, q0, hargs, rfl, rfl, h0, r0⟩ := trodAll_cons hA
  obtain ⟨rfl, rfl, rfl⟩ := trodAll_nil r0
  obtain rfl : args = #[v0] := by cases args; simp_all
  obtain ⟨rfl, rfl⟩ := trodVars_none hV
  obtain ⟨A0, n0, c0, l0, rfl, w0, u0⟩ := open_byteS (hval 0 26 v0 rfl rfl) h0
  exact law_post laidOut Tryd.underlying4 rfl (by rw [Tryd.params16]; exact readables (by kernel_rfl) (by kernel_rfl)) rfl hW' rfl rfl rfl (fnRowTotal_walk W A0 n0 c0 l0 w0 u0 (door_of5 hL))

theorem facts : joinedFacts Tryd.prog 16 Tryd.f16 Rows.fnRowTotalSpec Rows.fnRowTotalRow = true := by
  unfold joinedFacts
  rw [mayEnter_yes, liftsFinal_no, make_cut]
  kernel_rfl

theorem over : Rows.fnRowTotalRow.holds Tryd.pinned (OpenSpec.ofChange Rows.fnRowTotalSpec) :=
  OpenClaim.holds_of_wide 16 Tryd.f16 rfl rfl rfl rfl rfl rfl rfl ⟨rfl, rfl, rfl, rfl, rfl⟩ rfl rfl rfl rfl rfl (by kernel_rfl) Tryd.func16 facts
    (of_decide_eq_true (by kernel_rfl)) (by unfold Func.isWrapper; first | (rw [if_pos (by decide +kernel)]; kernel_rfl) | (rw [if_neg (by decide +kernel)]; exact ⟨rfl, rfl⟩))
    (fun os started H enc _ => lifted os started H enc)

theorem row_tie : Rows.fnRowTotalRow.laidByTextAt .later Tryd.pinned [.data, .data, .data, .sentinel, .sentinel] true := fnRowTotal_row_tie
theorem proved : Rows.FnRowTotalCardSaid :=
  Claim7.holds_tied_plain_at .later [] [.data, .data, .data, .sentinel, .sentinel] true Rows.fnExactDigitsCard.stood.harness true
    over (fun _ h => by cases h) (by kernel_rfl) (fun _ h => by cases h) row_tie rfl ⟨rfl, rfl⟩ main_is rfl
    (fun f fn hf hfn => by
      obtain rfl : f = 16 := Option.some.inj ((show Tryd.prog.funcNamed Rows.fnRowTotalRow.func = some 16 by kernel_rfl).symm.trans hf) |>.symm
      obtain rfl : fn = Tryd.f16 := (Option.some.inj (Tryd.func16.symm.trans hfn)).symm
      exact ⟨by kernel_rfl, fun j t ht => by
        rw [Tryd.params16] at ht
        have hm : t ∈ [26] := by simpa using Array.mem_of_getElem? ht
        have hall : ([26].all fun u => !Tryd.prog.wantsStandIn u) = true := by kernel_rfl
        exact (show Tryd.prog.wantsStandIn t = false by simpa using List.all_eq_true.1 hall t hm)⟩)
    (by kernel_rfl)
#print axioms proved
end Go.Proofs.YtohodehmidbmlaaDoor.fnRowTotal
