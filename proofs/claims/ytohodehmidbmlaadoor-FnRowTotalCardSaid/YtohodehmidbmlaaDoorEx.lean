/-
  Contracts: examples.
-/
import Derived.Test.YtohodehmidbmlaaDoorAttr3
import Derived.Test.YtohodehmidbmlaaDoorLib
import Derived.Deep.RegionHeld3
namespace Go.Proofs.YtohodehmidbmlaaDoor
open Go.ChangeShapes Go.WideShapes Go.ChangeAt Go.RowKit Go.Deep Go.Joins
set_option maxRecDepth 100000

structure ExD where
  bins : List Int
  cls : Int
def wEx (e : ExD) : Nat := e.bins.length
def ExI (w : World) (x0 x1 : Value) (d : ExD) : Prop := ∃ A n c, x0 = .slice A n c ∧ x1 = .int .i64 d.cls ∧ Ints w A n d.bins ∧ n ≤ maxLen ∧ (Lit.int .i64 d.cls).wf = true
def ExM (w : World) (x0 x1 : Value) (d : ExD) : Prop := ∃ A n c, x0 = .slice A n c ∧ x1 = .int .i64 d.cls ∧ Ints w A n d.bins ∧ n ≤ 1048576 ∧ (Lit.int .i64 d.cls).wf = true
theorem ExI.keep {w w' : World} {x0 x1 : Value} {d : ExD} (h : ExI w x0 x1 d) (hb : Below w.heap.size w w') : ExI w' x0 x1 d := by
  obtain ⟨A, n, c, h1, h2, h3, h4, h5⟩ := h
  exact ⟨A, n, c, h1, h2, h3.keep hb, h4, h5⟩
theorem ExM.keep {w w' : World} {x0 x1 : Value} {d : ExD} (h : ExM w x0 x1 d) (hb : Below w.heap.size w w') : ExM w' x0 x1 d := by
  obtain ⟨A, n, c, h1, h2, h3, h4, h5⟩ := h
  exact ⟨A, n, c, h1, h2, h3.keep hb, h4, h5⟩
theorem ExI.small {w : World} {x0 x1 : Value} {d : ExD} (h : ExI w x0 x1 d) (hw : wEx d ≤ 1048576) : ExM w x0 x1 d := by
  obtain ⟨A, n, c, h1, h2, h3, h4, h5⟩ := h
  have := h3.1
  unfold wEx at hw
  exact ⟨A, n, c, h1, h2, h3, by omega, h5⟩

section
variable {H : Type} {enc : TypeId × Value → H} {w : World} {base : Nat} {spare : Nat → Bool} {held : Bool}
theorem open_ex {b0 : Nat} {r : Reach} {v : Value} {d : DataW H} {p : List MemPlace} (hv : Value.okWide Tryd.prog w r b0 80 v) (h : DataW.Trod enc Tryd.prog w base spare held 80 v d p) :
    ∃ (x0 x1 : Value) (d : ExD), v = .agg #[x0, x1] ∧ ExI w x0 x1 d := by
  obtain ⟨u0, u1, y0, y1, n, rfl, _, _, h0, h1⟩ := open_agg2 Tryd.underlying80 (by kernel_rfl) (show Tryd.prog.cellsOf 80 = 2 by kernel_rfl) hv h
  obtain ⟨A1, n1, c1, l1, k1, k2, k3, k4⟩ := ints_of_trod h0
  obtain ⟨x, hx, _, wx⟩ := DataW.trod_int Tryd.underlying3 h1
  simp only [List.cons.injEq, and_true] at hx k1
  subst hx k1
  exact ⟨_, _, ⟨l1, x⟩, rfl, A1, n1, c1, rfl, rfl, k4, by omega, wx⟩
end

set_option maxHeartbeats 1000000 in
theorem szEx_any (x0 x1 : Value) (d : ExD) (left : Int) (w : World) (h : ExI w x0 x1 d) (h0 : 0 ≤ left) (h1 : left ≤ 1048576) :
    Calls Tryd.prog 62 #[.agg #[x0, x1], .int .i64 left] w (SzPost left (wEx d) w) := by
  obtain ⟨A, n, c, rfl, rfl, hl, hn, -⟩ := h
  have hlen := hide hl.1
  unfold maxLen at hn
  have hbox : Below w.heap.size w (w.alloc (.cells #[.slice A n c, .int .i64 d.cls] 80)) := (Below.refl _ _).alloc (Nat.le_refl _) _
  clear hl
  by_cases g2 : left < n
  · go_enter Tryd.func62, Tryd.ntmps62
    go_wp2_with (go_at_call 111; refine (szIntS_any A n c _ _ (by omega) (by omega) (by omega)).mono ?_; rintro e w' ⟨rfl, rfl⟩; rw [if_pos g2])
    go_ret
    exact ⟨-1, rfl, .inl rfl, hbox⟩
  · go_enter Tryd.func62, Tryd.ntmps62
    go_wp2_with (go_at_call 111; refine (szIntS_any A n c _ _ (by omega) (by omega) (by omega)).mono ?_; rintro e w' ⟨rfl, rfl⟩; rw [if_neg (by omega)])
    go_ret
    exact ⟨left - n, rfl, .inr ⟨by omega, by have := hlen.out; unfold wEx; omega⟩, hbox⟩

set_option maxHeartbeats 1000000 in
theorem toEx_any (x0 x1 : Value) (d : ExD) (w : World) (h : ExM w x0 x1 d) :
    Calls Tryd.prog 64 #[.agg #[x0, x1]] w fun e w' => ∃ y0 y1, e = .returned (.agg #[y0, y1]) ∧ ExM w' y0 y1 d ∧ Below w.heap.size w w' := by
  obtain ⟨A, n, c, rfl, rfl, hl, hn, hwf⟩ := h
  have HL := hide hl
  clear hl
  go_enter Tryd.func64, Tryd.ntmps64
  go_wp2_with (fail)
  have hB0 : Below w.heap.size w (((w.alloc (.cells #[.slice A n c, .int .i64 d.cls] 80)).alloc (.cells #[.slice none 0 0, .int .i64 0] 30)).alloc (.cells #[.slice none 0 0, .int .i64 0] 30)) :=
    (((Below.refl _ _).alloc (Nat.le_refl _) _).alloc (by simp) _).alloc (by simp; omega) _
  refine (toIntS_any A n c d.bins _ (HL.out.keep hB0) (by omega)).mono ?_
  rintro e w1 ⟨D1, m1, rfl, ho1, hb1⟩
  have hz1 : w.heap.size + 2 < w1.heap.size := by have := hb1.size; simp at this; omega
  have hz1' : w.heap.size + 1 < w1.heap.size := by omega
  have hz1'' : w.heap.size < w1.heap.size := by omega
  have hB1 := bthen hB0 hb1
  obtain ⟨hc1, hf1⟩ := bcell hb1
  have HI := hide ho1.ints
  have hr1 := hide (show From (w.heap.size + 3) D1 from (own_from ho1).mono (by simp))
  clear hb1 ho1 hB0
  have hR0 : w1.cell? ⟨w.heap.size + 1, 0, none⟩ = some (.slice none 0 0) := by go_simp
  have hR1 : w1.cell? ⟨w.heap.size + 1, 1, none⟩ = some (.int .i64 0) := by go_simp
  go_wp2
  have hW2 : Win (w.heap.size + 3) w1 ((((w1.setCell ⟨w.heap.size + 1 + 1, 0, none⟩ (.slice D1 n m1)).setCell ⟨w.heap.size + 1 + 1, 1, none⟩ (.int .i64 d.cls)).setCell ⟨w.heap.size + 1, 0, none⟩ (.slice D1 n m1)).setCell ⟨w.heap.size + 1, 1, none⟩ (.int .i64 d.cls)) :=
    ((((Win.refl _ w1).setCell (by simp) _).setCell (by simp) _).setCell (by simp) _).setCell (by simp) _
  exact bodyPost_ret (v := .agg #[.slice D1 n m1, .int .i64 d.cls]) (by simp [results, Tryd.results64, go_sem, hR0, hR1]) rfl
    ⟨_, _, rfl, ⟨D1, n, m1, rfl, rfl, HI.out.win hr1.out hW2, hn, hwf⟩,
      (((hB1.setCell (by simp; omega) _).setCell (by simp; omega) _).setCell (by simp) _).setCell (by simp) _⟩

set_option maxHeartbeats 1000000 in
theorem eqEx_any (x0 x1 y0 y1 : Value) (d : ExD) (w : World) (h : ExM w x0 x1 d) (h' : ExM w y0 y1 d) :
    Calls Tryd.prog 24 #[.agg #[x0, x1], .agg #[y0, y1]] w fun e w' => e = .returned (.bool true) ∧ Below w.heap.size w w' := by
  obtain ⟨A, n, c, rfl, rfl, hl, hn, -⟩ := h
  obtain ⟨B, m, k, rfl, rfl, hr, hm, -⟩ := h'
  have hbox : Below w.heap.size w ((w.alloc (.cells #[.slice A n c, .int .i64 d.cls] 30)).alloc (.cells #[.slice B m k, .int .i64 d.cls] 30)) := ((Below.refl _ _).alloc (Nat.le_refl _) _).alloc (by simp) _
  have HL := hide (hl.keep hbox)
  have HR := hide (hr.keep hbox)
  have hne : (d.cls != d.cls) = false := by simp
  clear hl hr
  go_enter Tryd.func24, Tryd.ntmps24
  go_wp2_with (fail)
  refine (eqIntS_any _ _ _ _ _ _ d.bins d.bins _ HL.out HR.out (by omega) (by omega)).mono ?_
  rintro e w1 ⟨rfl, q, rfl⟩
  simp only [decide_true]
  go_wp2
  go_ret
  exact ⟨rfl, below_drewN hbox _⟩
end Go.Proofs.YtohodehmidbmlaaDoor
