/-
  Contracts: strconv.Atoi under the listed variables; numbers read.
-/
import Derived.Test.YtohodehmidbmlaaDoorNumP
import Derived.Test.YtohodehmidbmlaaDoorLayAtoi
import Derived.Lib.AtoiAllCases
import Derived.Lib.AtoiErrMem
namespace Go.Proofs.YtohodehmidbmlaaDoor
open Go.ChangeShapes Go.WideShapes Go.ChangeAt Go.RowKit
set_option maxRecDepth 100000

abbrev errNm : String := match (Rows.laid_strconv_ErrSyntax : DataW Unit) with
  | .iface n _ => n
  | _ => default
theorem err_row (u : TypeId) (hu : Tryd.prog.typeName? 3 u = some errNm) : u = 181 := by
  refine typeName_ptr_named (P := Tryd.prog) (nm := "errors.errorString") ?_ ?_ ?_ u ?_
  · kernel_rfl
  · kernel_rfl
  · decide
  · rw [hu]; decide
theorem syn_global : Tryd.prog.globalNamed "strconv.ErrSyntax" = some 2 := by kernel_rfl
theorem syn_type : (Tryd.prog.globals[2]?).map (·.type) = some 134 := by kernel_rfl
theorem rng_global : Tryd.prog.globalNamed "strconv.ErrRange" = some 3 := by kernel_rfl
theorem rng_type : (Tryd.prog.globals[3]?).map (·.type) = some 134 := by kernel_rfl
/-- The table, and the two errors. -/
structure DoorW (w : World) : Prop where
  tab : TabW w
  syn : ∃ tp p, w.var? Tryd.prog "strconv.ErrSyntax" = some #[.iface tp p]
  rng : ∃ tp p, w.var? Tryd.prog "strconv.ErrRange" = some #[.iface tp p]
theorem var_keep {w w' : World} {n : String} {g : Nat} {v : Value} (hg : Tryd.prog.globalNamed n = some g) (h : w.var? Tryd.prog n = some #[v]) (hb : Below w.heap.size w w') : w'.var? Tryd.prog n = some #[v] := by
  have hc : w.cell? ⟨g, 0, none⟩ = some v := by simpa using World.var?_cell hg h 0
  exact var?_below hb hg (World.block_lt_of_cell? w _ hc) h
theorem DoorW.keep {w w' : World} (h : DoorW w) (hb : Below w.heap.size w w') : DoorW w' := by
  obtain ⟨h1, ⟨t1, p1, h2⟩, ⟨t2, p2, h3⟩⟩ := h
  exact ⟨h1.keep hb, ⟨t1, p1, var_keep syn_global h2 hb⟩, ⟨t2, p2, var_keep rng_global h3 hb⟩⟩
theorem door_of5 {W : World} (h : laidMetH Tryd.prog laid5 W) : DoorW W := by
  have ht := tab_of5 h
  rw [MakeChecks.laidMetH_plain _ _ _ (by kernel_rfl)] at h
  have h3 := h.tail.tail.tail
  obtain ⟨a0, s0, hv0, -, -, -⟩ := laid_sentinel h3 rng_global rng_type Tryd.underlying134 err_row Tryd.underlying181 Tryd.underlying183 rfl rfl Tryd.underlying9 (by kernel_rfl) (by kernel_rfl)
  obtain ⟨a1, s1, hv1, -, -, -⟩ := laid_sentinel h3.tail syn_global syn_type Tryd.underlying134 err_row Tryd.underlying181 Tryd.underlying183 rfl rfl Tryd.underlying9 (by kernel_rfl) (by kernel_rfl)
  exact ⟨ht, ⟨_, _, hv1⟩, ⟨_, _, hv0⟩⟩

/-- How strconv.Atoi ends. -/
def AtoiPost (s : ByteArray) (w : World) (e : Ending) (w' : World) : Prop :=
  ∃ v er, e = .returned (.tuple #[.int .i64 v, er]) ∧ ((Lib.atoiAll s.data.toList = .ok v ∧ er = .nilIface) ∨ ((∀ u, Lib.atoiAll s.data.toList ≠ .ok u) ∧ ∃ t p, er = .iface t (.pointer p))) ∧ Below w.heap.size w w'
theorem atoi_any (s : ByteArray) (hs : s.size ≤ 1048576) (w : World) (hd : DoorW w) : Calls Tryd.prog 146 #[.string s] w (AtoiPost s w) := by
  rcases h : Lib.atoiAll s.data.toList with v | _ | _
  · have hc : Calls Tryd.prog 146 #[.string s] w _ := Any.strconv_Atoi_ok Tryd.laysAtoi s (by omega) v h w
    refine hc.mono fun e w' ⟨he, hw⟩ => ⟨v, _, he, .inl ⟨h, rfl⟩, ?_⟩
    rcases hw with rfl | ⟨t, rfl⟩
    · exact Below.refl _ _
    · exact Lib.bytesWorld_below _ _ _
  · obtain ⟨tp, p, hv⟩ := hd.syn
    have hc : Calls Tryd.prog 146 #[.string s] w _ := Any.strconv_Atoi_syntax_var Tryd.laysAtoi s (by omega) h tp p w hv
    refine hc.mono fun e w' ⟨N, he, _, _, hb⟩ => ⟨_, _, he, .inr ⟨(by rw [h]; exact fun u e => (by cases e)), _, _, rfl⟩, hb⟩
  · obtain ⟨tp, p, hv⟩ := hd.rng
    have hc : Calls Tryd.prog 146 #[.string s] w _ := Any.strconv_Atoi_range_var Tryd.laysAtoi s (by omega) h tp p w hv
    refine hc.mono fun e w' ⟨N, he, _, _, hb⟩ => ⟨_, _, he, .inr ⟨(by rw [h]; exact fun u e => (by cases e)), _, _, rfl⟩, hb⟩
end Go.Proofs.YtohodehmidbmlaaDoor
