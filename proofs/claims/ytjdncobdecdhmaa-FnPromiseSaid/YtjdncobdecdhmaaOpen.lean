/-
  Opening the arguments of the laws: from the row's reading to words for memory.
-/
import Derived.Test.YtjdncobdecdhmaaRows
import Derived.Test.YtjdncobdecdhmaaFrame
namespace Go.Proofs.Ytjdncobdecdhmaa
open Go.ChangeShapes Go.WideShapes Go.ChangeAt Go.RowKit Go.Deep Go.Joins
open Go.ChangeMaps (open_string)

set_option maxRecDepth 100000
theorem own : ownKnob Try.prog.godebug = none := by kernel_rfl
theorem laidOut : laidOutB Try.prog = true := by kernel_rfl
theorem readables {ts : List TypeId} (h1 : (ts.all fun t => Try.prog.readableRec t) = true) (h2 : (ts.all fun t => decide (t < Try.prog.types.size)) = true) : ∀ t ∈ ts, Try.prog.readableRec t = true ∧ t < Try.prog.types.size :=
  fun t ht => ⟨List.all_eq_true.1 h1 t ht, of_decide_eq_true (List.all_eq_true.1 h2 t ht)⟩
section
variable {H : Type} {enc : TypeId × Value → H} {w : World} {base b0 : Nat} {spare : Nat → Bool} {held : Bool} {r : Reach} {v : Value} {d : DataW H} {p : List MemPlace}


theorem addr_lt_of_cell {w : World} {a : Addr} {u : Value} (h : w.cell? a = some u) : a.block < w.heap.size := World.block_lt_of_cell? w a h

theorem cellsI : Try.prog.cellsOf 3 = 1 := by kernel_rfl
theorem open_intS (hv : Value.okWide Try.prog w r b0 28 v) (h : DataW.Trod enc Try.prog w base spare held 28 v d p) :
    ∃ (A : Option Addr) (n c : Nat) (l : List Int), v = .slice A n c ∧ n ≤ maxLen ∧ Ints w A n l := by
  obtain ⟨a0, len, cap, rfl⟩ := okWide_slice Try.underlying28 hv
  obtain ⟨fuel, hf⟩ := h
  rcases open_ints Try.underlying28 Try.underlying3 cellsI hf with ⟨hcs, hx⟩ | ⟨a, len', cap', zs, hcs, _, hl, hm, hz, hx, hcell, hwz⟩
  · simp [Value.cells] at hcs
    obtain ⟨rfl, rfl, rfl⟩ := hcs
    exact ⟨none, 0, 0, [], rfl, by simp [maxLen], Ints.nil⟩
  · simp [Value.cells] at hcs
    obtain ⟨rfl, rfl, rfl⟩ := hcs
    have hzl : len ≤ zs.length := by rw [hz]; split <;> omega
    refine ⟨some a, len, cap, zs.take len, rfl, by omega, by simp; omega, fun hn => ⟨a, rfl, addr_lt_of_cell (hcell 0 (by omega)) |> fun h => by rwa [block_of_add] at h, fun i hi => ⟨[.int .i64 (zs.take len)[i]], rfl, rfl, fun j u hu => ?_⟩⟩⟩
    have hj : j = 0 := by
      rcases j with _ | j
      · rfl
      · simp at hu
    subst hj
    simp only [List.getElem?_cons_zero, Option.some.injEq] at hu
    subst hu
    have hi' : i < zs.length := by simp at hi; omega
    have h := hcell i hi'
    rw [List.getD_eq_getElem?_getD, List.getElem?_eq_getElem hi'] at h
    simpa using h

theorem open_byte (hv : Value.okWide Try.prog w r b0 5 v) (h : DataW.Trod enc Try.prog w base spare held 5 v d p) : ∃ a : Int, v = .int .u8 a ∧ (Lit.int .u8 a).wf = true := by
  obtain ⟨x, rfl, _, _, wx⟩ := open_int Try.underlying5 hv h
  exact ⟨x, rfl, wx⟩

theorem cellsB : Try.prog.cellsOf 5 = 1 := by kernel_rfl
theorem open_byteS (hv : Value.okWide Try.prog w r b0 22 v) (h : DataW.Trod enc Try.prog w base spare held 22 v d p) :
    ∃ (A : Option Addr) (n c : Nat) (l : List UInt8), v = .slice A n c ∧ n ≤ maxLen ∧ Bytes w A n l := by
  obtain ⟨a0, len, cap, rfl⟩ := okWide_slice Try.underlying22 hv
  obtain ⟨fuel, hf⟩ := h
  rcases open_ints Try.underlying22 Try.underlying5 cellsB hf with ⟨hcs, hx⟩ | ⟨a, len', cap', zs, hcs, _, hl, hm, hz, hx, hcell, hwz⟩
  · simp [Value.cells] at hcs
    obtain ⟨rfl, rfl, rfl⟩ := hcs
    exact ⟨none, 0, 0, [], rfl, by simp [maxLen], Bytes.nil⟩
  · simp [Value.cells] at hcs
    obtain ⟨rfl, rfl, rfl⟩ := hcs
    have hzl : len ≤ zs.length := by rw [hz]; split <;> omega
    refine ⟨some a, len, cap, (zs.take len).map (fun (z : Int) => UInt8.ofNat z.toNat), rfl, by omega, by simp; omega, fun hn => ⟨a, rfl, addr_lt_of_cell (hcell 0 (by omega)) |> fun h => by rwa [block_of_add] at h, fun i hi => ⟨[.int .u8 (((zs.take len).map (fun (z : Int) => UInt8.ofNat z.toNat))[i]).toNat], rfl, rfl, fun j u hu => ?_⟩⟩⟩
    have hj : j = 0 := by
      rcases j with _ | j
      · rfl
      · simp at hu
    subst hj
    simp only [List.getElem?_cons_zero, Option.some.injEq] at hu
    subst hu
    have hi' : i < zs.length := by simp at hi; omega
    have h := hcell i hi'
    rw [List.getD_eq_getElem?_getD, List.getElem?_eq_getElem hi'] at h
    have hw := bounds_u8 (hwz zs[i] (List.getElem_mem hi'))
    have e : ((UInt8.ofNat zs[i].toNat).toNat : Int) = zs[i] := by simp; omega
    simp only [List.getElem_map, List.getElem_take, e]
    simpa using h
end
end Go.Proofs.Ytjdncobdecdhmaa
