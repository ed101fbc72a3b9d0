/-
  The law FnExactSorted.
-/
import Derived.Test.YtjdncobdecdhmaaSort2
namespace Go.Proofs.Ytjdncobdecdhmaa
open Go.RowKit

theorem apart_flip {a b : Option Nat} (h : a = none ∨ a ≠ b) : b = none ∨ b ≠ a := by
  rcases h with h | h
  · subst h
    rcases b with _ | b
    · exact .inl rfl
    · exact .inr (by simp)
  · exact .inr (Ne.symm h)


set_option maxRecDepth 100000 in
set_option maxHeartbeats 4000000 in
theorem fnExactSorted_walk (w : World) (A : Option Addr) (n c : Nat) (l : List Int) (hl : n ≤ maxLen) (hr : Ints w A n l) :
    Calls Try.prog 4 #[.slice A n c] w fun e w' => e = .returned (.bool true) ∧ Below w.heap.size w w' := by
  have HA := hide hr
  have hlen := hr.1
  clear hr
  unfold maxLen at hl
  by_cases hn : n ≤ 1048576
  · have hRl : (sortI l).length ≤ 2097152 := by rw [sortI_len]; omega
    have hL := hide hlen
    clear hlen
    obtain ⟨R, hR⟩ : ∃ R, R = sortI l := ⟨_, rfl⟩
    rw [← hR] at hRl
    have HR := hide hR
    clear hR
    have hB : Below w.heap.size w w := Below.refl _ _
    go_enter Try.func4, Try.ntmps4
    go_wp2_with (fail)
    refine (toIntS_any A n c l _ (HA.out.keep hB) (by omega)).mono ?_
    rintro e a ⟨Da, ma, rfl, oa, ba⟩
    unfold OwnI at oa
    rw [← hL.out] at oa
    have sa := ba.size
    replace hB := bthen hB ba
    clear ba
    go_wp2_with (fail)
    refine (specSorted_any _ _ _ l _ (ints_of oa) (by omega)).mono ?_
    rintro e u ⟨Du, nu, mu, rfl, ou, qu, bu⟩
    unfold OwnI at ou
    rw [← HR.out] at ou qu
    subst qu
    have su := bu.size
    replace hB := bthen hB bu
    clear bu
    clear oa
    go_wp2_with (fail)
    refine (toIntS_any A n c l _ (HA.out.keep hB) (by omega)).mono ?_
    rintro e x ⟨Dx, mx, rfl, ox, bx⟩
    unfold OwnI at ox
    rw [← hL.out] at ox
    have sx := bx.size
    replace hB := bthen hB bx
    have pux := hide (own_apart ou ox (Nat.le_refl _))
    replace ou := own_below ou bx
    clear bx
    go_wp2_with (fail)
    refine (implSorted_any _ _ _ l _ (ints_of ox) (by omega)).mono ?_
    rintro e g ⟨Dg, ng, mg, rfl, og, qg, bg⟩
    unfold OwnI at og
    rw [← HR.out] at og qg
    subst qg
    have sg := bg.size
    replace hB := bthen hB bg
    have pxg := hide (apart_flip (own_apart ox og (Nat.le_refl _)))
    have pug := hide (own_apart ou og (Nat.le_refl _))
    replace ou := own_below ou bg
    replace ox := own_below ox bg
    clear bg
    go_wp2_with (fail)
    refine (eqIntS_b _ _ _ _ _ _ R R _ (ints_of og) (ints_of ou) (by omega) (by omega)).mono ?_
    rintro e e1 ⟨rfl, be1⟩
    simp only [decide_true]
    have se1 := be1.size
    replace hB := bthen hB be1
    replace ou := own_below ou be1
    replace ox := own_below ox be1
    replace og := own_below og be1
    clear be1
    go_wp2_with (fail)
    refine (toIntS_any A n c l _ (HA.out.keep hB) (by omega)).mono ?_
    rintro e yy ⟨Dyy, myy, rfl, oyy, byy⟩
    unfold OwnI at oyy
    rw [← hL.out] at oyy
    have syy := byy.size
    replace hB := bthen hB byy
    replace ou := own_below ou byy
    replace ox := own_below ox byy
    replace og := own_below og byy
    clear byy
    go_wp2_with (fail)
    refine (eqIntS_b _ _ _ _ _ _ l l _ (ints_of ox) (ints_of oyy) (by omega) (by omega)).mono ?_
    rintro e e2 ⟨rfl, be2⟩
    simp only [decide_true]
    have se2 := be2.size
    replace hB := bthen hB be2
    replace ou := own_below ou be2
    replace ox := own_below ox be2
    replace og := own_below og be2
    clear be2
    clear oyy
    go_wp2_with (fail)
    refine (markIntS_any _ _ _ _ l 1 _ ox (by omega) (by omega) (by omega)).mono ?_
    rintro e k1 ⟨rfl, -, hg⟩
    replace ou := ou.kept hg pux.out
    replace og := og.kept hg pxg.out
    replace hB := hB.grown hg hB.size (fun j hj => by have := (ox.lt j hj).1; omega)
    clear hg ox pux pxg
    go_wp2_with (fail)
    refine (eqIntS_b _ _ _ _ _ _ R R _ (ints_of og) (ints_of ou) (by omega) (by omega)).mono ?_
    rintro e e3 ⟨rfl, be3⟩
    simp only [decide_true]
    have se3 := be3.size
    replace hB := bthen hB be3
    replace ou := own_below ou be3
    replace og := own_below og be3
    clear be3
    go_wp2_with (fail)
    refine (markIntS_any _ _ _ _ R 1 _ og (by omega) (by omega) (by omega)).mono ?_
    rintro e k2 ⟨rfl, og2, hg⟩
    replace ou := ou.kept hg pug.out
    replace hB := hB.grown hg hB.size (fun j hj => by have := (og.lt j hj).1; omega)
    clear hg og
    go_wp2_with (fail)
    refine (heldIntS_any _ _ _ 1 _ (ints_of og2) (by omega) (by omega) (by omega)).mono ?_
    rintro e w' ⟨rfl, rfl⟩
    go_wp2_with (fail)
    refine (toIntS_any A n c l _ (HA.out.keep hB) (by omega)).mono ?_
    rintro e z ⟨Dz, mz, rfl, oz, bz⟩
    unfold OwnI at oz
    rw [← hL.out] at oz
    have sz := bz.size
    replace hB := bthen hB bz
    replace ou := own_below ou bz
    replace og2 := own_below og2 bz
    clear bz
    go_wp2_with (fail)
    refine (implSorted_any _ _ _ l _ (ints_of oz) (by omega)).mono ?_
    rintro e h ⟨Dh, nh, mh, rfl, oh, qh, bh⟩
    unfold OwnI at oh
    rw [← HR.out] at oh qh
    subst qh
    have sh := bh.size
    replace hB := bthen hB bh
    replace ou := own_below ou bh
    replace og2 := own_below og2 bh
    clear bh
    clear oz
    go_wp2_with (fail)
    refine (eqIntS_b _ _ _ _ _ _ R R _ (ints_of oh) (ints_of ou) (by omega) (by omega)).mono ?_
    rintro e e4 ⟨rfl, be4⟩
    simp only [decide_true]
    have se4 := be4.size
    replace hB := bthen hB be4
    replace ou := own_below ou be4
    replace og2 := own_below og2 be4
    clear be4
    go_wp2_with (fail)
    refine (heldIntS_any _ _ _ 1 _ (ints_of og2) (by omega) (by omega) (by omega)).mono ?_
    rintro e w' ⟨rfl, rfl⟩
    clear ou og2 oh
    go_wp2
    go_ret
    exact ⟨rfl, hB⟩
  · clear HA hlen
    go_enter Try.func4, Try.ntmps4
    go_wp2
    go_ret
    exact ⟨rfl, Below.refl _ _⟩
end Go.Proofs.Ytjdncobdecdhmaa
