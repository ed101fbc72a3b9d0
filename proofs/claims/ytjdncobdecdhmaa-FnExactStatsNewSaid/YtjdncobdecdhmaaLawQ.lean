/-
  The law FnExactThin.
-/
import Derived.Test.YtjdncobdecdhmaaMarkS2
namespace Go.Proofs.Ytjdncobdecdhmaa
open Go.RowKit

theorem Box2.only {S : Nat → Prop} {w w' : World} {b : Nat} {x y : Value} (h : Box2 w b x y) (ho : Only S w w') (hb : ¬ S b) : Box2 w' b x y :=
  ⟨(ho.cell (p := ⟨b, 0, none⟩) hb h.lt).trans h.c0, (ho.cell (p := ⟨b, 1, none⟩) hb h.lt).trans h.c1, Nat.lt_of_lt_of_le h.lt ho.size⟩
theorem cntStats_le (d : StatsD) : cntStats d ≤ wStats d := by unfold cntStats wStats wRows; omega
theorem thin_cnt {d : StatsD} (h : wStats d ≤ 1048576) : cntStats (thinD d) ≤ 1048576 := by
  unfold cntStats thinD; unfold wStats at h; simp; omega

end Go.Proofs.Ytjdncobdecdhmaa
