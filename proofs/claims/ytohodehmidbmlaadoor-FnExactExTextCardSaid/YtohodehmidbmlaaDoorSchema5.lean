/-
  Contracts: equal schemas.
-/
import Derived.Test.YtohodehmidbmlaaDoorSchema4
namespace Go.Proofs.YtohodehmidbmlaaDoor
open Go.RowKit
set_option maxRecDepth 100000

theorem AttrD.ext_ {a b : AttrD} (h1 : a.name = b.name) (h2 : a.cuts = b.cuts) (h3 : a.vals = b.vals) : a = b := by
  cases a; cases b; simp_all
instance : DecidableEq AttrD := fun a b =>
  if h : a.name = b.name ∧ a.cuts = b.cuts ∧ a.vals = b.vals then isTrue (AttrD.ext_ h.1 h.2.1 h.2.2) else isFalse fun e => h (by subst e; exact ⟨rfl, rfl, rfl⟩)
theorem attr_ne_name {a b : AttrD} (h : ¬ a.name = b.name) : decide (a = b) = false := by
  rw [decide_eq_false_iff_not]; rintro rfl; exact h rfl
theorem attr_ne_cuts {a b : AttrD} (h : ¬ a.cuts = b.cuts) : decide (a = b) = false := by
  rw [decide_eq_false_iff_not]; rintro rfl; exact h rfl
theorem attr_eq_vals {a b : AttrD} (h1 : a.name = b.name) (h2 : a.cuts = b.cuts) : decide (a = b) = decide (a.vals = b.vals) := by
  rw [decide_eq_decide]; exact ⟨fun h => by rw [h], fun h => AttrD.ext_ h1 h2 h⟩
def schemaSameB (d e : SchemaD) : Bool := decide (d.classes = e.classes) && decide (d.attrs = e.attrs)
set_option maxHeartbeats 1000000 in
theorem schemaSame1_any (A1 : Option Addr) (n1 c1 : Nat) (A2 : Option Addr) (n2 c2 : Nat) (B1 : Option Addr) (m1 d1 : Nat) (B2 : Option Addr) (m2 d2 : Nat) (a b : AttrD) (w : World) (h : AttrM w A1 n1 c1 A2 n2 c2 a) (h' : AttrM w B1 m1 d1 B2 m2 d2 b) :
    Calls Tryd.prog 130 #[.agg #[.string a.name, .slice A1 n1 c1, .slice A2 n2 c2], .agg #[.string b.name, .slice B1 m1 d1, .slice B2 m2 d2]] w fun e w' => e = .returned (.bool (decide (a = b))) ∧ Below w.heap.size w w' := by
  have hbox : Below w.heap.size w ((w.alloc (.cells #[.string a.name, .slice A1 n1 c1, .slice A2 n2 c2] 64)).alloc (.cells #[.string b.name, .slice B1 m1 d1, .slice B2 m2 d2] 64)) := ((Below.refl _ _).alloc (Nat.le_refl _) _).alloc (by simp) _
  have HV := hide (h.keep hbox)
  have HW := hide (h'.keep hbox)
  have hn1 := h.b1
  have hn2 := h.b2
  have hm1 := h'.b1
  have hm2 := h'.b2
  clear h h'
  by_cases hn : a.name = b.name
  · have HE := str_beq hn
    cases hq : decide (a.cuts = b.cuts)
    · have HQ := hide hq
      have hfin := hide (attr_ne_cuts (a := a) (b := b) (of_decide_eq_false hq))
      clear hn hq
      go_enter Tryd.func130, Tryd.ntmps130
      go_wp2_with (fail)
      refine (equalInts_any _ _ _ _ _ _ a.cuts b.cuts _ HV.out.cuts HW.out.cuts (by omega) (by omega)).mono ?_
      rintro e w' ⟨rfl, q, rfl⟩
      rw [HQ.out]
      go_wp2
      go_ret
      exact ⟨ret_bool hfin.out.symm, below_drewN hbox _⟩
    · have HQ := hide hq
      have hfin := hide (attr_eq_vals hn (of_decide_eq_true hq))
      clear hn hq
      go_enter Tryd.func130, Tryd.ntmps130
      go_wp2_with (fail)
      refine (equalInts_any _ _ _ _ _ _ a.cuts b.cuts _ HV.out.cuts HW.out.cuts (by omega) (by omega)).mono ?_
      rintro e w' ⟨rfl, q, rfl⟩
      rw [HQ.out]
      go_wp2_with (fail)
      refine (equalStrs_any _ _ _ _ _ _ a.vals b.vals _ (HV.out.vals.keep (below_drewN (Below.refl _ _) _)) (HW.out.vals.keep (below_drewN (Below.refl _ _) _)) (by omega) (by omega)).mono ?_
      rintro e w' ⟨rfl, q', rfl⟩
      go_wp2
      go_ret
      exact ⟨ret_bool hfin.out.symm, below_drewN hbox _⟩
  · have HE := str_beq_no hn
    have hfin := hide (attr_ne_name hn)
    clear hn
    go_enter Tryd.func130, Tryd.ntmps130
    go_wp2
    go_ret
    exact ⟨ret_bool hfin.out.symm, hbox⟩

set_option maxHeartbeats 2000000 in
theorem eqFuncAttrs_any (A B : Option Addr) (n m c d : Nat) (l r : List AttrD) (w : World) (hl : AttrsM w A n l) (hr : AttrsM w B m r) (hn : n ≤ 2097152) (hm : m ≤ 2097152) :
    Calls Tryd.prog 129 #[.slice A n c, .slice B m d, .func (.func 130) #[] #[]] w fun e w' => e = .returned (.bool (decide (l = r))) ∧ Below w.heap.size w w' := by
  have hcf := Tryd.call130
  have HL := hide hl
  have HR := hide hr
  clear hl hr
  by_cases hnm : n = m
  · subst hnm
    go_enter Tryd.func129, Tryd.ntmps129
    go_wp2
    go_loopw [17] (fun i wr => ∃ k : Nat, k ≤ n ∧ i = .int .i64 k ∧ l.take k = r.take k ∧ Below w.heap.size w wr) (fun i _ => n - (intOf i).toNat)
    case atStart => exact ⟨0, Nat.zero_le _, rfl, by simp, Below.refl _ _⟩
    case round =>
      obtain ⟨k, hk, rfl, htk, hbel⟩ := hrel
      have HT := hide htk
      clear htk
      by_cases hlt : k < n
      · obtain ⟨a1, A1, n1, c1, A2, n2, c2, rfl, hb1, g0, g1, g2, hI1⟩ := (HL.out.keep hbel).at_ hlt
        obtain ⟨a2, B1, m1, d1, B2, m2, d2, rfl, hb2, j0, j1, j2, hI2⟩ := (HR.out.keep hbel).at_ hlt
        have P2 : (a2.add (k * 3)).block < wr.heap.size := by rw [block_of_add]; exact hb2
        have i0 : (wr.alloc (.cells #[.string (l[k]?.getD default).name, .slice A1 n1 c1, .slice A2 n2 c2] 64)).cell? (a2.add (k * 3)) = some (.string (r[k]?.getD default).name) := (World.cell?_alloc_lt _ _ _ P2).trans j0
        have i1 : (wr.alloc (.cells #[.string (l[k]?.getD default).name, .slice A1 n1 c1, .slice A2 n2 c2] 64)).cell? ⟨(a2.add (k * 3)).block, (a2.add (k * 3)).off + 1, none⟩ = some (.slice B1 m1 d1) := (World.cell?_alloc_lt _ _ ⟨(a2.add (k * 3)).block, (a2.add (k * 3)).off + 1, none⟩ P2).trans j1
        have i2 : (wr.alloc (.cells #[.string (l[k]?.getD default).name, .slice A1 n1 c1, .slice A2 n2 c2] 64)).cell? ⟨(a2.add (k * 3)).block, (a2.add (k * 3)).off + 2, none⟩ = some (.slice B2 m2 d2) := (World.cell?_alloc_lt _ _ ⟨(a2.add (k * 3)).block, (a2.add (k * 3)).off + 2, none⟩ P2).trans j2
        have hbox : Below wr.heap.size wr ((wr.alloc (.cells #[.string (l[k]?.getD default).name, .slice A1 n1 c1, .slice A2 n2 c2] 64)).alloc (.cells #[.string (r[k]?.getD default).name, .slice B1 m1 d1, .slice B2 m2 d2] 64)) := ((Below.refl _ _).alloc (Nat.le_refl _) _).alloc (by simp) _
        have H1 := hide (hI1.keep hbox)
        have H2 := hide (hI2.keep hbox)
        have hbel2 := bthen hbel hbox
        clear hI1 hI2 hb1 hb2 j0 j1 j2 hbox P2
        by_cases he : l[k]?.getD default = r[k]?.getD default
        · have HS := hide (take_eq_step default (by have := HL.out.1; omega) (by have := HR.out.1; omega) HT.out he)
          have HE := hide (show decide (l[k]?.getD default = r[k]?.getD default) = true by simpa using he)
          clear he
          go_wp2_with (fail)
          refine (schemaSame1_any _ _ _ _ _ _ _ _ _ _ _ _ (l[k]?.getD default) (r[k]?.getD default) _ H1.out H2.out).mono ?_
          rintro e w2 ⟨rfl, hb⟩
          rw [HE.out]
          have hbel3 := bthen hbel2 hb
          clear hb g0 g1 g2 i0 i1 i2 hbel2
          go_wp2
          go_roundw
          case rel => exact ⟨k + 1, by omega, by go_num, HS.out, hbel3⟩
          case measure => simp [intOf]; omega
        · have HS := hide (take_ne_step default he)
          have HE := hide (show decide (l[k]?.getD default = r[k]?.getD default) = false by simpa using he)
          clear he
          go_wp2_with (fail)
          refine (schemaSame1_any _ _ _ _ _ _ _ _ _ _ _ _ (l[k]?.getD default) (r[k]?.getD default) _ H1.out H2.out).mono ?_
          rintro e w2 ⟨rfl, hb⟩
          rw [HE.out]
          have hbel3 := bthen hbel2 hb
          clear hb g0 g1 g2 i0 i1 i2 hbel2
          go_wp2
          go_ret
          exact ⟨ret_bool (by simp [HS.out]), hbel3⟩
      · have HS := hide (show l = r by
          have h := HT.out
          rwa [List.take_of_length_le (by have := HL.out.1; omega), List.take_of_length_le (by have := HR.out.1; omega)] at h)
        go_wp2
        go_ret
        exact ⟨ret_bool (by simp [HS.out]), hbel⟩
  · have HS := hide (show ¬ l = r by
      rintro rfl
      exact hnm (by have := HL.out.1; have := HR.out.1; omega))
    have hne : ((n : Int) != (m : Int)) = true := by rw [bne_iff_ne]; omega
    clear hnm
    go_enter Tryd.func129, Tryd.ntmps129
    go_wp2
    go_ret
    exact ⟨ret_bool (by simp [HS.out]), Below.refl _ _⟩

set_option maxHeartbeats 1000000 in
theorem implSchemaSame_any (x0 x1 y0 y1 : Value) (d e : SchemaD) (w : World) (h : SchemaM w x0 x1 d) (h' : SchemaM w y0 y1 e) :
    Calls Tryd.prog 79 #[.agg #[x0, x1], .agg #[y0, y1]] w fun r w' => r = .returned (.bool (schemaSameB d e)) ∧ Below w.heap.size w w' := by
  obtain ⟨A, n, c, D, m, k, rfl, rfl, hl, hn, hr, -, hm, -⟩ := h
  obtain ⟨A', n', c', D', m', k', rfl, rfl, hl', hn', hr', -, hm', -⟩ := h'
  have hbox : Below w.heap.size w ((w.alloc (.cells #[.slice A n c, .slice D m k] 35)).alloc (.cells #[.slice A' n' c', .slice D' m' k'] 35)) := ((Below.refl _ _).alloc (Nat.le_refl _) _).alloc (by simp) _
  have HL := hide (hl.keep hbox)
  have HL' := hide (hl'.keep hbox)
  have HR := hide (hr.keep hbox)
  have HR' := hide (hr'.keep hbox)
  clear hl hr hl' hr'
  cases hq : decide (d.classes = e.classes)
  · have hfin := hide (show schemaSameB d e = false by rw [schemaSameB, hq]; rfl)
    have HQ := hide hq
    clear hq
    go_enter Tryd.func79, Tryd.ntmps79
    go_wp2_with (fail)
    refine (equalStrs_any D D' m m' k k' d.classes e.classes _ HR.out HR'.out (by omega) (by omega)).mono ?_
    rintro e w' ⟨rfl, q, rfl⟩
    rw [HQ.out]
    go_wp2
    go_ret
    exact ⟨ret_bool hfin.out.symm, below_drewN hbox _⟩
  · have hfin := hide (show schemaSameB d e = decide (d.attrs = e.attrs) by rw [schemaSameB, hq]; rfl)
    have HQ := hide hq
    clear hq
    go_enter Tryd.func79, Tryd.ntmps79
    go_wp2_with (fail)
    refine (equalStrs_any D D' m m' k k' d.classes e.classes _ HR.out HR'.out (by omega) (by omega)).mono ?_
    rintro e w' ⟨rfl, q, rfl⟩
    rw [HQ.out]
    go_wp2_with (fail)
    refine (eqFuncAttrs_any A A' n n' c c' _ _ _ (HL.out.keep (below_drewN (Below.refl _ _) _)) (HL'.out.keep (below_drewN (Below.refl _ _) _)) (by omega) (by omega)).mono ?_
    rintro e w2 ⟨rfl, hb⟩
    have hB := bthen (below_drewN hbox q) hb
    go_wp2
    go_ret
    exact ⟨ret_bool hfin.out.symm, hB⟩
end Go.Proofs.YtohodehmidbmlaaDoor
