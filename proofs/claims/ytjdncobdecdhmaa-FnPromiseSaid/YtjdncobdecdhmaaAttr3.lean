/-
  Contracts: attributes: size, copy, comparison.
-/
import Derived.Test.YtjdncobdecdhmaaData
import Derived.Test.YtjdncobdecdhmaaAttr2
import Derived.Test.YtjdncobdecdhmaaWin
namespace Go.Proofs.Ytjdncobdecdhmaa
open Go.RowKit

theorem own_cap {w : World} {B : Nat} {e : TypeId} {sz n c : Nat} {A : Option Addr} {xs : List Value} (h : w.ownsRow B e sz (.slice A n c) n xs) : n ≤ c := by
  rcases h.2 with ⟨hv, h0⟩ | ⟨g, cap, cur, hv, hb, hg, hnc, _⟩
  · omega
  · injection hv with h1 h2 h3
    subst h3
    exact hnc
theorem own_cap' {B : Nat} {w : World} {A : Option Addr} {n c : Nat} {l : List ByteArray} (h : OwnS B w (.slice A n c) l) : n ≤ c := by
  have h1 : n = l.length := by
    rcases h.2 with ⟨hv, h0⟩ | ⟨g, cap, cur, hv, _⟩
    · injection hv with _ h2 _
      omega
    · injection hv with _ h2 _
  subst h1
  exact own_cap h

set_option maxRecDepth 100000 in
set_option maxHeartbeats 1000000 in
theorem szAttr_any (A1 : Option Addr) (n1 c1 : Nat) (A2 : Option Addr) (n2 c2 : Nat) (a : AttrD) (left : Int) (w : World) (h : AttrI w A1 n1 c1 A2 n2 c2 a) (h0 : 0 ≤ left) (h1 : left ≤ 1048576) :
    Calls Try.prog 80 #[.agg #[.string a.name, .slice A1 n1 c1, .slice A2 n2 c2], .int .i64 left] w (SzPost left (wAttr a) w) := by
  have hbox : Below w.heap.size w (w.alloc (.cells #[.string a.name, .slice A1 n1 c1, .slice A2 n2 c2] 93)) := (Below.refl _ _).alloc (Nat.le_refl _) _
  have HV := hide (h.keep hbox)
  have hn1 := h.b1
  have hn2 := h.b2
  have hl1 := hide h.cuts.1
  have hnm := h.name
  unfold maxLen at hn1 hn2 hnm
  clear h
  obtain ⟨S, hS⟩ : ∃ S, S = a.name := ⟨_, rfl⟩
  rw [← hS] at hnm hbox HV
  rw [← hS]
  have HS := hide hS
  clear hS
  by_cases g1 : left < S.size
  · go_enter Try.func80, Try.ntmps80
    go_wp2
    go_ret
    exact ⟨-1, rfl, .inl rfl, hbox⟩
  · by_cases g2 : left - S.size < n1
    · go_enter Try.func80, Try.ntmps80
      go_wp2_with (go_at_call 105; refine (szIntS_any A1 n1 c1 _ _ (by omega) (by omega) (by omega)).mono ?_; rintro e w' ⟨rfl, rfl⟩; rw [if_pos g2])
      go_ret
      exact ⟨-1, rfl, .inl rfl, hbox⟩
    · go_enter Try.func80, Try.ntmps80
      go_wp2_with (fail)
      refine (szIntS_any A1 n1 c1 _ _ (by omega) (by omega) (by omega)).mono ?_
      rintro e w' ⟨rfl, rfl⟩
      rw [if_neg (by omega)]
      go_wp2_with (fail)
      refine (szStringS_any A2 n2 c2 a.vals _ _ HV.out.vals (fun s hs => by have := HV.out.sizes s hs; unfold maxLen at this; omega) (by omega) (by omega) (by omega)).mono ?_
      rintro e w2 ⟨r, rfl, hr, hb2⟩
      have hB := bthen hbox hb2
      clear hb2
      rcases hr with rfl | ⟨hr0, hr1⟩
      · go_wp2
        go_ret
        exact ⟨-1, rfl, .inl rfl, hB⟩
      · have HR := hide hr1
        clear hr1
        go_wp2
        go_ret
        refine ⟨r, rfl, .inr ⟨hr0, ?_⟩, hB⟩
        have h1 := HR.out
        have h2 := hl1.out
        unfold wAttr
        rw [← HS.out]
        omega

theorem AttrM.win {B : Nat} {w w' : World} {A1 A2 : Option Addr} {n1 c1 n2 c2 : Nat} {a : AttrD} (h : AttrM w A1 n1 c1 A2 n2 c2 a) (f1 : From B A1) (f2 : From B A2) (hb : Win B w w') : AttrM w' A1 n1 c1 A2 n2 c2 a :=
  ⟨h.cuts.win f1 hb, h.vals.win f2 hb, h.name, h.sizes, h.b1, h.b2, h.cc⟩

set_option maxRecDepth 100000 in
set_option maxHeartbeats 1000000 in
theorem toAttr_any (A1 : Option Addr) (n1 c1 : Nat) (A2 : Option Addr) (n2 c2 : Nat) (a : AttrD) (w : World) (h : AttrM w A1 n1 c1 A2 n2 c2 a) :
    Calls Try.prog 83 #[.agg #[.string a.name, .slice A1 n1 c1, .slice A2 n2 c2]] w fun e w' => ∃ B1 m1 B2 m2, e = .returned (.agg #[.string a.name, .slice B1 n1 m1, .slice B2 n2 m2]) ∧ AttrM w' B1 n1 m1 B2 n2 m2 a ∧ From w.heap.size B1 ∧ From w.heap.size B2 ∧ Below w.heap.size w w' := by
  have HM := hide h
  have hn1 := h.b1
  have hn2 := h.b2
  clear h
  go_enter Try.func83, Try.ntmps83
  go_wp2_with (fail)
  have hB0 : Below w.heap.size w (((w.alloc (.cells #[.string a.name, .slice A1 n1 c1, .slice A2 n2 c2] 93)).alloc (.cells #[.string ⟨#[]⟩, .slice none 0 0, .slice none 0 0] 73)).alloc (.cells #[.string a.name, .slice none 0 0, .slice none 0 0] 73)) :=
    (((Below.refl _ _).alloc (Nat.le_refl _) _).alloc (by simp) _).alloc (by simp; omega) _
  refine (toIntS_any A1 n1 c1 a.cuts _ (HM.out.cuts.keep hB0) (by omega)).mono ?_
  rintro e w1 ⟨D1, m1, rfl, ho1, hb1⟩
  have hz1 : w.heap.size + 2 < w1.heap.size := by have := hb1.size; simp at this; omega
  have hz1' : w.heap.size + 1 < w1.heap.size := by omega
  have hz1'' : w.heap.size < w1.heap.size := by omega
  have hB1 := bthen hB0 hb1
  obtain ⟨hc1, hf1⟩ := bcell hb1
  have HI := hide ho1.ints
  have hge : w.heap.size + 3 ≤ w1.heap.size := by omega
  have hown := hide ho1
  have hr1 := hide (show From (w.heap.size + 3) D1 from (own_from ho1).mono (by simp))
  clear hb1 ho1
  go_wp2_with (fail)
  refine (toStringS_any A2 n2 c2 a.vals _ (HM.out.vals.keep (hB1.setCell (by simp; omega) _)) (by omega)).mono ?_
  rintro e w2 ⟨D2, m2, rfl, ho2, hb2⟩
  have hz2 := hb2.size
  have hB2 := bthen (hB1.setCell (p := ⟨w.heap.size + 2, 1, none⟩) (by simp) _) hb2
  obtain ⟨hc2, hf2⟩ := bcell hb2
  have hS := hide ho2.ints
  have hcap := hide (own_cap' ho2)
  have hr2 := hide (show From (w.heap.size + 3) D2 from (own_from ho2).mono (by simp; omega))
  have hW1 : Win (w.heap.size + 3) w1 w2 := ((Win.refl _ w1).setCell (p := ⟨w.heap.size + 2, 1, none⟩) (by simp) _).below hb2
  clear ho2 hB0
  have hR0 : w2.cell? ⟨w.heap.size + 1, 0, none⟩ = some (.string ⟨#[]⟩) := by go_simp
  have hR1 : w2.cell? ⟨w.heap.size + 1, 1, none⟩ = some (.slice none 0 0) := by go_simp
  have hR2 : w2.cell? ⟨w.heap.size + 1, 2, none⟩ = some (.slice none 0 0) := by go_simp
  go_wp2
  have hW2 : Win (w.heap.size + 3) w2 ((((w2.setCell ⟨w.heap.size + 1 + 1, 2, none⟩ (.slice D2 n2 m2)).setCell ⟨w.heap.size + 1, 0, none⟩ (.string a.name)).setCell ⟨w.heap.size + 1, 1, none⟩ (.slice D1 n1 m1)).setCell ⟨w.heap.size + 1, 2, none⟩ (.slice D2 n2 m2)) :=
    ((((Win.refl _ w2).setCell (by simp) _).setCell (by simp) _).setCell (by simp) _).setCell (by simp) _
  exact bodyPost_ret (v := .agg #[.string a.name, .slice D1 n1 m1, .slice D2 n2 m2]) (by simp [results, Try.results83, go_sem, hR0, hR1, hR2]) rfl
    ⟨D1, m1, D2, m2, rfl, ⟨(HI.out.win hr1.out hW1).win hr1.out hW2, hS.out.win hr2.out hW2, HM.out.name, HM.out.sizes, hn1, hn2, hcap.out⟩, hr1.out.mono (by omega), hr2.out.mono (by omega),
      (((hB2.setCell (by simp; omega) _).setCell (by simp) _).setCell (by simp) _).setCell (by simp) _⟩

set_option maxRecDepth 100000 in
set_option maxHeartbeats 1000000 in
theorem eqAttr_any (A1 : Option Addr) (n1 c1 : Nat) (A2 : Option Addr) (n2 c2 : Nat) (B1 : Option Addr) (m1 d1 : Nat) (B2 : Option Addr) (m2 d2 : Nat) (a : AttrD) (w : World) (h : AttrM w A1 n1 c1 A2 n2 c2 a) (h' : AttrM w B1 m1 d1 B2 m2 d2 a) :
    Calls Try.prog 86 #[.agg #[.string a.name, .slice A1 n1 c1, .slice A2 n2 c2], .agg #[.string a.name, .slice B1 m1 d1, .slice B2 m2 d2]] w fun e w' => e = .returned (.bool true) ∧ Below w.heap.size w w' := by
  have hbox : Below w.heap.size w ((w.alloc (.cells #[.string a.name, .slice A1 n1 c1, .slice A2 n2 c2] 73)).alloc (.cells #[.string a.name, .slice B1 m1 d1, .slice B2 m2 d2] 73)) := ((Below.refl _ _).alloc (Nat.le_refl _) _).alloc (by simp) _
  have HV := hide (h.keep hbox)
  have HW := hide (h'.keep hbox)
  have hn1 := h.b1
  have hn2 := h.b2
  have hm1 := h'.b1
  have hm2 := h'.b2
  have heq : (a.name.toList != a.name.toList) = false := by simp
  clear h h'
  go_enter Try.func86, Try.ntmps86
  go_wp2_with (fail)
  refine (eqIntS_any _ _ _ _ _ _ a.cuts a.cuts _ HV.out.cuts HW.out.cuts (by omega) (by omega)).mono ?_
  rintro e w1 ⟨rfl, q, rfl⟩
  simp only [decide_true]
  go_wp2_with (fail)
  refine (eqStringS_any _ _ _ _ _ _ a.vals a.vals _ (HV.out.vals.keep (below_drewN (Below.refl _ _) _)) (HW.out.vals.keep (below_drewN (Below.refl _ _) _)) (by omega) (by omega)).mono ?_
  rintro e w1 ⟨rfl, q', rfl⟩
  simp only [decide_true]
  go_wp2
  go_ret
  exact ⟨rfl, below_drewN hbox _⟩
end Go.Proofs.Ytjdncobdecdhmaa
