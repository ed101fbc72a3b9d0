/-
  Contracts: drawn rows.
-/
import Derived.Test.YtohodehmidbmlaaDoorParts
import Derived.Test.YtohodehmidbmlaaDoorEText
import Derived.Test.YtohodehmidbmlaaDoorNum2
import Derived.Lib.IndexMore
import Derived.Test.YtohodehmidbmlaaDoorSchemaOk2
import Derived.Test.YtohodehmidbmlaaDoorInts2
import Derived.Test.YtohodehmidbmlaaDoorNum
import Derived.Test.YtohodehmidbmlaaDoorLib
import Derived.Test.YtohodehmidbmlaaDoorSchema4
import Derived.Test.YtohodehmidbmlaaDoorEx
import Derived.Test.YtohodehmidbmlaaDoorInts
import Derived.Test.YtohodehmidbmlaaDoorDraw
import Derived.Test.YtohodehmidbmlaaDoorApp
import Derived.Deep.RegionLaw
import Derived.Laws.IdiomStrings
import Derived.Laws.BytesArg
import Derived.Test.YtohodehmidbmlaaDoorExOk
import Derived.Test.YtohodehmidbmlaaDoorScal
import Derived.Laws.BitsAllLaws
import Derived.Laws.BitsLemmas
import Derived.Lib.AppendStr
import Derived.Lib.ConvBytes
namespace Go.Proofs.YtohodehmidbmlaaDoor
open Go.RowKit

def joinP (b : UInt8) : List ByteArray → List UInt8
  | [] => []
  | x :: t => x.data.toList ++ t.flatMap fun y => b :: y.data.toList
theorem joinP_snoc {b : UInt8} {l : List ByteArray} {x : ByteArray} (h : 0 < l.length) : joinP b (l ++ [x]) = joinP b l ++ b :: x.data.toList := by
  match l, h with
  | y :: t, _ => simp [joinP]
theorem flat_shift (b : UInt8) (t : List ByteArray) (x : ByteArray) : (t ++ [x]).flatMap (fun y => b :: y.data.toList) = b :: ((t.flatMap fun y => y.data.toList ++ [b]) ++ x.data.toList) := by
  induction t with
  | nil => simp
  | cons y t ih => rw [List.cons_append, List.flatMap_cons, ih]; simp
theorem joinP_glue (b : UInt8) (t : List ByteArray) (x : ByteArray) : joinP b (t ++ [x]) = (t.flatMap fun y => y.data.toList ++ [b]) ++ x.data.toList := by
  match t with
  | [] => simp [joinP]
  | y :: t => rw [List.cons_append, joinP, flat_shift]; simp
theorem toList_extract (s : ByteArray) (i j : Nat) : (s.extract i j).data.toList = (s.data.toList.drop i).take (j - i) := by
  rw [ByteArray.data_extract, Array.toList_extract]
  first | done | simp [List.extract]
/-- No byte of p is b. -/
def noB (b : Int) (p : ByteArray) : Prop := ∀ j, j < p.size → ¬ ((p.data.toList[j]?.getD 0).toNat : Int) = b
theorem noB_part {s : ByteArray} {b : Int} {F i : Nat} (hi : i ≤ s.size) (h : ∀ j, F ≤ j → j < i → ¬ ((s.data.toList[j]?.getD 0).toNat : Int) = b) : noB b (s.extract F i) := by
  intro j hj
  have e : (s.extract F i).size = (s.extract F i).data.toList.length := rfl
  rw [e, toList_extract] at hj
  have hs : s.data.toList.length = s.size := rfl
  rw [List.length_take, List.length_drop, hs] at hj
  rw [toList_extract, List.getElem?_take_of_lt (by omega), List.getElem?_drop]
  exact h (F + j) (by omega) (by omega)
theorem partsTo_law (s : ByteArray) (b : Int) (hb : 0 ≤ b ∧ b < 256) : ∀ i, i ≤ s.size →
    (partsTo s b i).2 ≤ i ∧ (∀ p ∈ (partsTo s b i).1, noB b p) ∧ (∀ j, (partsTo s b i).2 ≤ j → j < i → ¬ ((s.data.toList[j]?.getD 0).toNat : Int) = b) ∧
      ((partsTo s b i).1.flatMap fun y => y.data.toList ++ [UInt8.ofNat b.toNat]) = s.data.toList.take (partsTo s b i).2
  | 0, _ => by simp [partsTo]
  | i + 1, hi => by
    obtain ⟨h1, h2, h3, h4⟩ := partsTo_law s b hb i (by omega)
    have hs : s.data.toList.length = s.size := rfl
    unfold partsTo
    split
    · rename_i e
      refine ⟨Nat.le_refl _, fun p hp => ?_, fun j hj hj' => by simp at hj; omega, ?_⟩
      · rcases List.mem_append.1 hp with hp | hp
        · exact h2 p hp
        · rw [List.mem_singleton] at hp
          subst hp
          exact noB_part (by omega) h3
      · simp only [List.flatMap_append, h4, List.flatMap_cons, List.flatMap_nil, List.append_nil, toList_extract]
        have hx : UInt8.ofNat b.toNat = s.data.toList[i]'(by omega) := by
          rw [List.getElem?_eq_getElem (by omega), Option.getD_some] at e
          rw [← e]; simp
        have ht : s.data.toList.take i = s.data.toList.take (partsTo s b i).2 ++ (s.data.toList.drop (partsTo s b i).2).take (i - (partsTo s b i).2) := by
          rw [← List.take_add]; congr 1; omega
        rw [hx, ← List.append_assoc, ← ht, ← List.take_succ_eq_append_getElem]
    · rename_i e
      refine ⟨by omega, h2, fun j hj hj' => ?_, h4⟩
      by_cases q : j = i
      · subst q; exact e
      · exact h3 j hj (by omega)
/-- The parts, with b between them, are the string again; none of them holds b. -/
theorem parts_law (s : ByteArray) (b : Int) (hb : 0 ≤ b ∧ b < 256) : (∀ p ∈ parts s b, noB b p) ∧ joinP (UInt8.ofNat b.toNat) (parts s b) = s.data.toList := by
  obtain ⟨h1, h2, h3, h4⟩ := partsTo_law s b hb s.size (Nat.le_refl _)
  have hs : s.data.toList.length = s.size := rfl
  refine ⟨fun p hp => ?_, ?_⟩
  · rw [parts] at hp
    rcases List.mem_append.1 hp with hp | hp
    · exact h2 p hp
    · rw [List.mem_singleton] at hp
      subst hp
      exact noB_part (Nat.le_refl _) h3
  · rw [parts, joinP_glue, h4, toList_extract, List.take_of_length_le (l := s.data.toList.drop _) (by rw [List.length_drop]; omega), List.take_append_drop]
end Go.Proofs.YtohodehmidbmlaaDoor
namespace Go.Proofs.YtohodehmidbmlaaDoor
open Go.RowKit

/-- No byte of p is b. -/
def offB (b : UInt8) (p : ByteArray) : Prop := ∀ c ∈ p.data.toList, c ≠ b
theorem offB_of_noB {b : UInt8} {p : ByteArray} (h : noB b.toNat p) : offB b p := by
  intro c hc e
  obtain ⟨j, hj, rfl⟩ := List.mem_iff_getElem.1 hc
  refine h j hj ?_
  rw [List.getElem?_eq_getElem hj, Option.getD_some, e]
theorem list_split {b : UInt8} : ∀ {x y F G : List UInt8}, (∀ c ∈ x, c ≠ b) → (∀ c ∈ y, c ≠ b) → (F = [] ∨ ∃ t, F = b :: t) → (G = [] ∨ ∃ t, G = b :: t) → x ++ F = y ++ G → x = y ∧ F = G
  | [], [], F, G, _, _, _, _, h => ⟨rfl, h⟩
  | [], d :: y, F, G, _, hy, hF, _, h => by
    rcases hF with rfl | ⟨t, rfl⟩
    · simp at h
    · simp only [List.nil_append, List.cons_append, List.cons.injEq] at h
      exact (hy d (by simp) h.1.symm).elim
  | c :: x, [], F, G, hx, _, _, hG, h => by
    rcases hG with rfl | ⟨t, rfl⟩
    · simp at h
    · simp only [List.nil_append, List.cons_append, List.cons.injEq] at h
      exact (hx c (by simp) h.1).elim
  | c :: x, d :: y, F, G, hx, hy, hF, hG, h => by
    simp only [List.cons_append, List.cons.injEq] at h
    obtain ⟨rfl, h⟩ := h
    obtain ⟨rfl, rfl⟩ := list_split (fun e he => hx e (by simp [he])) (fun e he => hy e (by simp [he])) hF hG h
    exact ⟨rfl, rfl⟩
theorem tail_form (b : UInt8) (t : List ByteArray) : (t.flatMap fun y => b :: y.data.toList) = [] ∨ ∃ u, (t.flatMap fun y => b :: y.data.toList) = b :: u := by
  cases t with
  | nil => exact .inl rfl
  | cons y t => exact .inr ⟨y.data.toList ++ t.flatMap fun y => b :: y.data.toList, by simp⟩
theorem tails_eq {b : UInt8} : ∀ {t u : List ByteArray}, (∀ p ∈ t, offB b p) → (∀ p ∈ u, offB b p) → (t.flatMap fun y => b :: y.data.toList) = (u.flatMap fun y => b :: y.data.toList) → t = u
  | [], [], _, _, _ => rfl
  | [], y :: u, _, _, h => by simp at h
  | y :: t, [], _, _, h => by simp at h
  | y :: t, z :: u, ht, hu, h => by
    simp only [List.flatMap_cons, List.cons_append, List.cons.injEq, true_and] at h
    obtain ⟨h1, h2⟩ := list_split (ht y (by simp)) (hu z (by simp)) (tail_form b t) (tail_form b u) h
    rw [bytes_ext h1, tails_eq (fun p hp => ht p (by simp [hp])) (fun p hp => hu p (by simp [hp])) h2]
theorem joinP_inj {b : UInt8} {l m : List ByteArray} (hl : 0 < l.length) (hm : 0 < m.length) (h1 : ∀ p ∈ l, offB b p) (h2 : ∀ p ∈ m, offB b p) (h : joinP b l = joinP b m) : l = m := by
  match l, m, hl, hm with
  | x :: t, y :: u, _, _ =>
    obtain ⟨e1, e2⟩ := list_split (h1 x (by simp)) (h2 y (by simp)) (tail_form b t) (tail_form b u) (show x.data.toList ++ _ = y.data.toList ++ _ from h)
    rw [bytes_ext e1, tails_eq (fun p hp => h1 p (by simp [hp])) (fun p hp => h2 p (by simp [hp])) e2]
theorem joinP_joinB (b : UInt8) (l : List ByteArray) : (joinB l ⟨#[b]⟩).data.toList = joinP b l := by
  match l with
  | [] => rfl
  | x :: t =>
    rw [joinB_list, List.map_cons, Lib.join_cons, joinP]
    congr 1
    unfold Lib.joinTail
    rw [List.map_map, List.flatMap_def]
    rfl
theorem ofNat_b (b : UInt8) : UInt8.ofNat ((b.toNat : Nat) : Int).toNat = b := by simp
theorem parts_pos (s : ByteArray) (b : Int) : 0 < (parts s b).length := by simp [parts]
theorem parts_off {s : ByteArray} {b : UInt8} : ∀ p ∈ parts s b.toNat, offB b p := by
  obtain ⟨h1, -⟩ := parts_law s b.toNat ⟨by omega, by have := b.toNat_lt; omega⟩
  exact fun p hp => offB_of_noB (h1 p hp)
theorem joinB_parts (s : ByteArray) (b : UInt8) : joinB (parts s b.toNat) ⟨#[b]⟩ = s := by
  obtain ⟨-, h2⟩ := parts_law s b.toNat ⟨by omega, by have := b.toNat_lt; omega⟩
  rw [ofNat_b] at h2
  exact bytes_ext (by rw [joinP_joinB, h2])
theorem parts_joinB {b : UInt8} {l : List ByteArray} (hl : 0 < l.length) (h : ∀ p ∈ l, offB b p) : parts (joinB l ⟨#[b]⟩) b.toNat = l := by
  obtain ⟨-, h2⟩ := parts_law (joinB l ⟨#[b]⟩) b.toNat ⟨by omega, by have := b.toNat_lt; omega⟩
  rw [ofNat_b, joinP_joinB] at h2
  exact joinP_inj (parts_pos _ _) hl parts_off h h2
theorem joinB_two (b : UInt8) (x y : ByteArray) : joinB [x, y] ⟨#[b]⟩ = x ++ ⟨#[b]⟩ ++ y := by
  apply bytes_ext
  rw [joinP_joinB, app_list, app_list]
  simp [joinP]
theorem parts_two {b : UInt8} {x y : ByteArray} (hx : offB b x) (hy : offB b y) : parts (x ++ ⟨#[b]⟩ ++ y) b.toNat = [x, y] := by
  rw [← joinB_two]
  refine parts_joinB (by simp) fun p hp => ?_
  simp only [List.mem_cons, List.not_mem_nil, or_false] at hp
  rcases hp with rfl | rfl
  · exact hx
  · exact hy
theorem parts_one {b : UInt8} {s : ByteArray} (h : offB b s) : parts s b.toNat = [s] := by
  have e : s = joinB [s] ⟨#[b]⟩ := (joinB_one s _).symm
  conv => lhs; rw [e]
  refine parts_joinB (by simp) fun p hp => ?_
  rw [List.mem_singleton] at hp
  subst hp
  exact h
theorem parts_pair {s : ByteArray} {b : UInt8} (h : (parts s b.toNat).length = 2) : ∃ x y, parts s b.toNat = [x, y] ∧ s = x ++ ⟨#[b]⟩ ++ y ∧ offB b x ∧ offB b y := by
  match hp : parts s b.toNat, h with
  | [x, y], _ =>
    have ho := parts_off (s := s) (b := b)
    rw [hp] at ho
    exact ⟨x, y, rfl, by rw [← joinB_two, ← hp, joinB_parts], ho x (by simp), ho y (by simp)⟩

/-- The bytes of a joined text. -/
theorem mem_joinB {c : UInt8} {l : List ByteArray} {b : UInt8} (h : c ∈ (joinB l ⟨#[b]⟩).data.toList) : c = b ∨ ∃ p ∈ l, c ∈ p.data.toList := by
  rw [joinP_joinB] at h
  match l, h with
  | x :: t, h =>
    rw [joinP] at h
    rcases List.mem_append.1 h with h | h
    · exact .inr ⟨x, by simp, h⟩
    · obtain ⟨y, hy, h⟩ := List.mem_flatMap.1 h
      rcases List.mem_cons.1 h with h | h
      · exact .inl h
      · exact .inr ⟨y, by simp [hy], h⟩
theorem off_joinB {l : List ByteArray} {b d : UInt8} (hb : b ≠ d) (h : ∀ p ∈ l, offB d p) : offB d (joinB l ⟨#[b]⟩) := by
  intro c hc
  rcases mem_joinB hc with rfl | ⟨p, hp, h1⟩
  · exact hb
  · exact h p hp c h1
theorem off_app {x y : ByteArray} {d : UInt8} (hx : offB d x) (hy : offB d y) : offB d (x ++ y) := by
  intro c hc
  rw [app_list] at hc
  rcases List.mem_append.1 hc with h | h
  · exact hx c h
  · exact hy c h
theorem off_one {b d : UInt8} (h : b ≠ d) : offB d ⟨#[b]⟩ := by
  intro c hc
  have : c = b := by simpa using hc
  subst this
  exact h
theorem wordB_bytes {s : ByteArray} (h : wordB s = true) : ∀ c ∈ s.data.toList, 97 ≤ c.toNat ∧ c.toNat ≤ 122 := by
  unfold wordB at h
  rw [Bool.and_eq_true, List.all_eq_true] at h
  intro c hc
  have := h.2 c hc
  simp only [letB, Bool.and_eq_true, decide_eq_true_eq] at this
  omega
theorem word_off {s : ByteArray} {d : UInt8} (h : wordB s = true) (hd : d.toNat < 97 ∨ 122 < d.toNat) : offB d s := by
  intro c hc e
  have := wordB_bytes h c hc
  subst e
  omega
theorem numB_bytes (n : Int) : ∀ c ∈ (numB n).data.toList, c.toNat = 45 ∨ (48 ≤ c.toNat ∧ c.toNat ≤ 57) := by
  have key : ∀ u, ∀ c ∈ Lib.decDigits u, 48 ≤ c.toNat ∧ c.toNat ≤ 57 := by
    intro u c hc
    obtain ⟨k, hk, rfl⟩ := List.mem_iff_getElem.1 hc
    obtain ⟨d, h⟩ := Lib.digit_of_decFrom _ _ _ (decFrom_digits u) k _ (List.getElem?_eq_getElem hk)
    unfold Lib.digitVal at h
    split at h
    · assumption
    · cases h
  intro c hc
  rw [numB_list] at hc
  unfold Lib.itoa at hc
  split at hc
  · rcases List.mem_cons.1 hc with rfl | hc
    · exact .inl rfl
    · exact .inr (key _ c hc)
  · exact .inr (key _ c hc)
theorem num_off {n : Int} {d : UInt8} (h1 : d.toNat ≠ 45) (hd : d.toNat < 48 ∨ 57 < d.toNat) : offB d (numB n) := by
  intro c hc e
  have := numB_bytes n c hc
  subst e
  omega

/-- strings.Cut at one byte. -/
theorem index_one (b : UInt8) : ∀ l : List UInt8, (Lib.index l [b] = -1 ∧ ∀ c ∈ l, c ≠ b) ∨ ∃ x y, l = x ++ b :: y ∧ (∀ c ∈ x, c ≠ b) ∧ Lib.index l [b] = x.length
  | [] => .inl ⟨rfl, by simp⟩
  | c :: l => by
    by_cases hc : b = c
    · subst hc
      exact .inr ⟨[], l, rfl, by simp, by simp [Lib.index]⟩
    · rcases index_one b l with ⟨h1, h2⟩ | ⟨x, y, h1, h2, h3⟩
      · refine .inl ⟨by simp [Lib.index, hc, h1], fun d hd => ?_⟩
        rcases List.mem_cons.1 hd with rfl | hd
        · exact Ne.symm hc
        · exact h2 d hd
      · refine .inr ⟨c :: x, y, by rw [h1]; rfl, fun d hd => ?_, ?_⟩
        · rcases List.mem_cons.1 hd with rfl | hd
          · exact Ne.symm hc
          · exact h2 d hd
        · have : ¬ ((x.length : Int) = -1) := by omega
          simp [Lib.index, hc, h3, this]
/-- What strings.Cut hands back at one byte. -/
def CutP (b : UInt8) (s x y : ByteArray) (ok : Bool) : Prop := (ok = false ∧ offB b s) ∨ (ok = true ∧ s = x ++ ⟨#[b]⟩ ++ y ∧ offB b x)
theorem cutP (b : UInt8) (s : ByteArray) : CutP b s ⟨(Lib.cut s.data.toList [b]).1.toArray⟩ ⟨(Lib.cut s.data.toList [b]).2.1.toArray⟩ (Lib.cut s.data.toList [b]).2.2 := by
  rcases index_one b s.data.toList with ⟨h1, h2⟩ | ⟨x, y, h1, h2, h3⟩
  · refine .inl ⟨?_, h2⟩
    unfold Lib.cut
    rw [h1, if_neg (by omega)]
  · have e : Lib.cut s.data.toList [b] = (x, y, true) := by
      unfold Lib.cut
      rw [h3, if_pos (by omega), h1]
      simp
    rw [e]
    refine .inr ⟨rfl, bytes_ext ?_, h2⟩
    rw [app_list, app_list, h1]
    simp
end Go.Proofs.YtohodehmidbmlaaDoor
namespace Go.Proofs.YtohodehmidbmlaaDoor
open Go.RowKit

def rdS (s : ByteArray) : Int × Bool := rdI s (-9999) 9999
def numsOk (l : List ByteArray) : Bool := l.all fun s => (rdS s).2
def numsOf (l : List ByteArray) : List Int := l.map fun s => (rdS s).1
theorem rdS_num {x : Int} (h0 : -9999 ≤ x) (h1 : x ≤ 9999) : rdS (numB x) = (x, true) := rdI_yes (by omega) (by omega) (inB_iff.2 ⟨h0, h1⟩) rfl
theorem rdS_bd (s : ByteArray) : -9999 ≤ (rdS s).1 ∧ (rdS s).1 ≤ 9999 := by
  rcases rdI_or s (-9999) 9999 with h | ⟨v, hb, -, h⟩
  · rw [rdS, h]; simp
  · rw [rdS, h]; exact inB_iff.1 hb
theorem map_back {α β : Type} {l : List α} {f : α → β} {g : β → α} (h : ∀ x ∈ l, g (f x) = x) : (l.map f).map g = l := by
  induction l with
  | nil => rfl
  | cons x l ih => rw [List.map_cons, List.map_cons, h x (by simp), ih fun y hy => h y (by simp [hy])]
theorem nums_rt {l : List Int} (h : ∀ x ∈ l, -9999 ≤ x ∧ x ≤ 9999) : numsOk (l.map numB) = true ∧ numsOf (l.map numB) = l := by
  refine ⟨?_, map_back fun x hx => by rw [rdS_num (h x hx).1 (h x hx).2]⟩
  unfold numsOk
  rw [List.all_eq_true]
  intro s hs
  obtain ⟨x, hx, rfl⟩ := List.mem_map.1 hs
  rw [rdS_num (h x hx).1 (h x hx).2]
/-- The attribute that a text whose parts are p (at '=') and q (at ':') may stand for. -/
def candP (p q : List ByteArray) : Option AttrD :=
  if p.length = 2 then some ⟨p[0]?.getD ByteArray.empty, [], parts (p[1]?.getD ByteArray.empty) 44⟩
  else if q.length = 2 then (if numsOk (parts (q[1]?.getD ByteArray.empty) 44) = true then some ⟨q[0]?.getD ByteArray.empty, numsOf (parts (q[1]?.getD ByteArray.empty) 44), []⟩ else none)
  else some ⟨ByteArray.empty, [], []⟩
theorem candP_one (x y : ByteArray) (q : List ByteArray) : candP [x, y] q = some ⟨x, [], parts y 44⟩ := by unfold candP; simp
theorem candP_two {p : List ByteArray} (x y : ByteArray) (h : ¬ p.length = 2) : candP p [x, y] = if numsOk (parts y 44) = true then some ⟨x, numsOf (parts y 44), []⟩ else none := by unfold candP; simp [h]
theorem candP_none {p q : List ByteArray} (h : ¬ p.length = 2) (h2 : ¬ q.length = 2) : candP p q = some ⟨ByteArray.empty, [], []⟩ := by unfold candP; simp [h, h2]
def keepA (s : ByteArray) (c : Option AttrD) : Option AttrD := match c with
  | some a => if attrB a = true ∧ attrT a = s then some a else none
  | none => none
/-- The attribute of a text. -/
def attrOf (s : ByteArray) : Option AttrD := keepA s (candP (parts s 61) (parts s 58))
theorem keepA_some {s : ByteArray} {c : Option AttrD} {a : AttrD} (h : keepA s c = some a) : c = some a ∧ attrB a = true ∧ attrT a = s := by
  unfold keepA at h
  split at h
  · split at h
    · rename_i h2; injection h with h; subst h; exact ⟨rfl, h2⟩
    · cases h
  · cases h
theorem keepA_yes {s : ByteArray} {a : AttrD} (h1 : attrB a = true) (h2 : attrT a = s) : keepA s (some a) = some a := by
  simp [keepA, h1, h2]
theorem attrOf_some {s : ByteArray} {a : AttrD} (h : attrOf s = some a) : attrB a = true ∧ attrT a = s := (keepA_some h).2

/-- The parts of a right attribute's text. -/
theorem attrT_form {a : AttrD} (h : attrB a = true) :
    (a.cuts = [] ∧ 0 < a.vals.length ∧ attrT a = a.name ++ ⟨#[61]⟩ ++ joinB a.vals ⟨#[44]⟩ ∧ wordB a.name = true ∧ ∀ s ∈ a.vals, wordB s = true) ∨
    (a.vals = [] ∧ 0 < a.cuts.length ∧ attrT a = a.name ++ ⟨#[58]⟩ ++ joinB (a.cuts.map numB) ⟨#[44]⟩ ∧ wordB a.name = true ∧ ∀ x ∈ a.cuts, -9999 ≤ x ∧ x ≤ 9998) := by
  have hw := attrB_word h
  rcases attrB_parts h with ⟨h1, h2, h3, h4⟩ | ⟨h1, h2, h3, h4, h5⟩
  · refine .inl ⟨List.eq_nil_of_length_eq_zero h1, by omega, attrT_vals h (by omega), hw, fun s hs => ?_⟩
    have h6 := attrB_few hw h1
    rw [h] at h6
    have h7 := h6.symm
    rw [Bool.and_eq_true] at h7
    unfold wordsB at h7
    rw [Bool.and_eq_true, List.all_eq_true] at h7
    exact h7.2.1 s hs
  · refine .inr ⟨List.eq_nil_of_length_eq_zero h1, by omega, attrT_cuts h (by omega), hw, fun x hx => ?_⟩
    obtain ⟨i, hi, rfl⟩ := List.mem_iff_getElem.1 hx
    have := h5 i hi
    rwa [List.getElem?_eq_getElem hi, Option.getD_some] at this
theorem vals_off {l : List ByteArray} {d : UInt8} (h : ∀ s ∈ l, wordB s = true) (h1 : d ≠ 44) (hd : d.toNat < 97 ∨ 122 < d.toNat) : offB d (joinB l ⟨#[44]⟩) :=
  off_joinB (Ne.symm h1) fun p hp => word_off (h p hp) hd
theorem cuts_off {l : List Int} {d : UInt8} (h1 : d ≠ 44) (h2 : d.toNat ≠ 45) (hd : d.toNat < 48 ∨ 57 < d.toNat) : offB d (joinB (l.map numB) ⟨#[44]⟩) :=
  off_joinB (Ne.symm h1) fun p hp => by
    obtain ⟨x, -, rfl⟩ := List.mem_map.1 hp
    exact num_off h2 hd
theorem vals_parts {l : List ByteArray} (h0 : 0 < l.length) (h : ∀ s ∈ l, wordB s = true) : parts (joinB l ⟨#[44]⟩) 44 = l :=
  parts_joinB (b := 44) h0 fun p hp => word_off (h p hp) (by decide)
theorem cuts_parts {l : List Int} (h0 : 0 < l.length) : parts (joinB (l.map numB) ⟨#[44]⟩) 44 = l.map numB :=
  parts_joinB (b := 44) (by simpa using h0) fun p hp => by
    obtain ⟨x, -, rfl⟩ := List.mem_map.1 hp
    exact num_off (by decide) (by decide)
/-- A right attribute's text is read as it was. -/
theorem attrOf_rt {a : AttrD} (h : attrB a = true) : attrOf (attrT a) = some a := by
  have hc : candP (parts (attrT a) 61) (parts (attrT a) 58) = some a := by
    rcases attrT_form h with ⟨h1, h2, h3, h4, h5⟩ | ⟨h1, h2, h3, h4, h5⟩
    · rw [h3, show parts (a.name ++ ⟨#[61]⟩ ++ joinB a.vals ⟨#[44]⟩) 61 = [a.name, joinB a.vals ⟨#[44]⟩] from parts_two (b := 61) (word_off h4 (by decide)) (vals_off h5 (by decide) (by decide))]
      rw [candP_one, vals_parts h2 h5]
      obtain ⟨nm, cs, vs⟩ := a
      obtain rfl : cs = [] := h1
      rfl
    · rw [h3, show parts (a.name ++ ⟨#[58]⟩ ++ joinB (a.cuts.map numB) ⟨#[44]⟩) 61 = [a.name ++ ⟨#[58]⟩ ++ joinB (a.cuts.map numB) ⟨#[44]⟩] from
          parts_one (b := 61) (off_app (off_app (word_off h4 (by decide)) (off_one (by decide))) (cuts_off (by decide) (by decide) (by decide))),
        show parts (a.name ++ ⟨#[58]⟩ ++ joinB (a.cuts.map numB) ⟨#[44]⟩) 58 = [a.name, joinB (a.cuts.map numB) ⟨#[44]⟩] from parts_two (b := 58) (word_off h4 (by decide)) (cuts_off (by decide) (by decide) (by decide))]
      obtain ⟨g1, g2⟩ := nums_rt fun x hx => ⟨(h5 x hx).1, by have := (h5 x hx).2; omega⟩
      rw [candP_two _ _ (by simp), cuts_parts h2, g1, g2, if_pos rfl]
      obtain ⟨nm, cs, vs⟩ := a
      obtain rfl : vs = [] := h1
      rfl
  rw [attrOf, hc]
  exact keepA_yes h rfl
/-- Whatever finds each right attribute in its own text, and checks what it found, reads as the reference does. -/
theorem keepA_any {s : ByteArray} {c : Option AttrD} (h : ∀ a, attrB a = true → attrT a = s → c = some a) : keepA s c = attrOf s := by
  rcases hk : attrOf s with _ | a
  · rcases hc : keepA s c with _ | b
    · rfl
    · obtain ⟨-, h1, h2⟩ := keepA_some hc
      have := attrOf_rt h1
      rw [h2, hk] at this
      cases this
  · obtain ⟨h1, h2⟩ := attrOf_some hk
    rw [h a h1 h2]
    exact keepA_yes h1 h2
/-- The attribute that the program's cuts of a text may stand for. -/
def candC (ok1 ok2 : Bool) (x1 y1 x2 y2 : ByteArray) : Option AttrD :=
  if ok1 = true then some ⟨x1, [], parts y1 44⟩
  else if ok2 = true then (if numsOk (parts y2 44) = true then some ⟨x2, numsOf (parts y2 44), []⟩ else none)
  else some ⟨ByteArray.empty, [], []⟩
theorem cut_at {b : UInt8} {s x y u v : ByteArray} {ok : Bool} (h : CutP b s x y ok) (hs : s = u ++ ⟨#[b]⟩ ++ v) (hu : offB b u) : ok = true ∧ x = u ∧ y = v := by
  rcases h with ⟨-, h⟩ | ⟨rfl, h, hx⟩
  · refine (h b ?_ rfl).elim
    rw [hs, app_list, app_list]; simp
  · refine ⟨rfl, ?_⟩
    have e : x.data.toList ++ b :: y.data.toList = u.data.toList ++ b :: v.data.toList := by
      have := congrArg (fun z : ByteArray => z.data.toList) (h.symm.trans hs)
      simpa [app_list] using this
    obtain ⟨e1, e2⟩ := list_split hx hu (.inr ⟨_, rfl⟩) (.inr ⟨_, rfl⟩) e
    injection e2 with _ e2
    exact ⟨bytes_ext e1, bytes_ext e2⟩
theorem cut_off {b : UInt8} {s x y : ByteArray} {ok : Bool} (h : CutP b s x y ok) (hs : offB b s) : ok = false := by
  rcases h with ⟨h, -⟩ | ⟨rfl, h, hx⟩
  · exact h
  · refine (hs b ?_ rfl).elim
    rw [h, app_list, app_list]; simp
theorem candC_rt {s x1 y1 x2 y2 : ByteArray} {ok1 ok2 : Bool} (h1 : CutP 61 s x1 y1 ok1) (h2 : CutP 58 s x2 y2 ok2) : keepA s (candC ok1 ok2 x1 y1 x2 y2) = attrOf s := by
  refine keepA_any fun a ha hs => ?_
  subst hs
  rcases attrT_form ha with ⟨g1, g2, g3, g4, g5⟩ | ⟨g1, g2, g3, g4, g5⟩
  · obtain ⟨rfl, rfl, rfl⟩ := cut_at h1 g3 (word_off g4 (by decide))
    unfold candC
    rw [if_pos rfl, vals_parts g2 g5]
    obtain ⟨nm, cs, vs⟩ := a
    obtain rfl : cs = [] := g1
    rfl
  · obtain rfl := cut_off h1 (by rw [g3]; exact off_app (off_app (word_off g4 (by decide)) (off_one (by decide))) (cuts_off (by decide) (by decide) (by decide)))
    obtain ⟨rfl, rfl, rfl⟩ := cut_at h2 g3 (word_off g4 (by decide))
    obtain ⟨k1, k2⟩ := nums_rt fun x hx => ⟨(g5 x hx).1, by have := (g5 x hx).2; omega⟩
    unfold candC
    rw [if_neg (by simp), if_pos rfl, cuts_parts g2, k1, k2, if_pos rfl]
    obtain ⟨nm, cs, vs⟩ := a
    obtain rfl : vs = [] := g1
    rfl

/-! Schemas. -/
def attrsOk (l : List ByteArray) : Bool := l.all fun s => (attrOf s).isSome
def attrsOf (l : List ByteArray) : List AttrD := l.map fun s => (attrOf s).getD default
def keepS (d : SchemaD) : Option SchemaD := if schemaB d = true then some d else none
/-- The schema of a front and a back. -/
def schemaFB (x y : ByteArray) : Option SchemaD := if attrsOk (parts x 59) = true then keepS ⟨attrsOf (parts x 59), parts y 44⟩ else none
/-- The schema of a text. -/
def schemaOf (s : ByteArray) : Option SchemaD := if (parts s 124).length = 2 then schemaFB ((parts s 124)[0]?.getD ByteArray.empty) ((parts s 124)[1]?.getD ByteArray.empty) else none
theorem attrT_off {a : AttrD} {d : UInt8} (h : attrB a = true) (h1 : d ≠ 44) (h2 : d.toNat ≠ 45) (h3 : d.toNat < 48 ∨ 122 < d.toNat ∨ d = 59) : offB d (attrT a) := by
  have hd : d ≠ 61 ∧ d ≠ 58 ∧ (d.toNat < 97 ∨ 122 < d.toNat) ∧ (d.toNat < 48 ∨ 57 < d.toNat) := by
    rcases h3 with h | h | rfl
    · refine ⟨fun e => by subst e; simp at h, fun e => by subst e; simp at h, by omega, by omega⟩
    · refine ⟨fun e => by subst e; simp at h, fun e => by subst e; simp at h, by omega, by omega⟩
    · decide
  obtain ⟨d1, d2, d3, d4⟩ := hd
  rcases attrT_form h with ⟨g1, g2, g3, g4, g5⟩ | ⟨g1, g2, g3, g4, g5⟩
  · rw [g3]; exact off_app (off_app (word_off g4 d3) (off_one (Ne.symm d1))) (vals_off g5 h1 d3)
  · rw [g3]; exact off_app (off_app (word_off g4 d3) (off_one (Ne.symm d2))) (cuts_off h1 h2 d4)
theorem attrs_rt {l : List AttrD} (h : ∀ a ∈ l, attrB a = true) : attrsOk (l.map attrT) = true ∧ attrsOf (l.map attrT) = l := by
  refine ⟨?_, map_back fun x hx => by rw [attrOf_rt (h x hx)]; rfl⟩
  unfold attrsOk
  rw [List.all_eq_true]
  intro s hs
  obtain ⟨x, hx, rfl⟩ := List.mem_map.1 hs
  rw [attrOf_rt (h x hx)]
  rfl
theorem schemaB_words' {d : SchemaD} (h : schemaB d = true) : ∀ s ∈ d.classes, wordB s = true := by
  unfold schemaB at h
  simp only [Bool.and_eq_true] at h
  have h2 := h.2.2.1
  unfold wordsB at h2
  rw [Bool.and_eq_true, List.all_eq_true] at h2
  exact h2.1
theorem schemaT_form {d : SchemaD} (h : schemaB d = true) : parts (schemaT d) 124 = [joinB (d.attrs.map attrT) ⟨#[59]⟩, joinB d.classes ⟨#[44]⟩] ∧ parts (joinB (d.attrs.map attrT) ⟨#[59]⟩) 59 = d.attrs.map attrT ∧ parts (joinB d.classes ⟨#[44]⟩) 44 = d.classes := by
  obtain ⟨h1, h2, -, h3⟩ := schemaB_parts h
  have hw := schemaB_words' h
  refine ⟨?_, ?_, vals_parts (by omega) hw⟩
  · rw [schemaT_yes h]
    exact parts_two (b := 124) (off_joinB (by decide) fun p hp => by
      obtain ⟨a, ha, rfl⟩ := List.mem_map.1 hp
      exact attrT_off (h3 a ha) (by decide) (by decide) (by decide)) (vals_off hw (by decide) (by decide))
  · refine parts_joinB (b := 59) (by rw [List.length_map]; omega) fun p hp => ?_
    obtain ⟨a, ha, rfl⟩ := List.mem_map.1 hp
    exact attrT_off (h3 a ha) (by decide) (by decide) (by decide)
/-- A right schema's text is read as it was. -/
theorem schemaOf_rt {d : SchemaD} (h : schemaB d = true) : schemaOf (schemaT d) = some d := by
  obtain ⟨h1, h2, h3⟩ := schemaT_form h
  obtain ⟨-, -, -, h4⟩ := schemaB_parts h
  obtain ⟨g1, g2⟩ := attrs_rt h4
  unfold schemaOf schemaFB keepS
  rw [h1]
  simp [h2, h3, g1, g2, h]
theorem schemaOf_empty : schemaOf ⟨#[]⟩ = none := by
  have e : parts (⟨#[]⟩ : ByteArray) 124 = [⟨#[]⟩] := parts_one (b := 124) (by intro c hc; simp at hc)
  unfold schemaOf
  rw [e, if_neg (by simp)]
theorem attrs_join {l : List ByteArray} (h : attrsOk l = true) : (attrsOf l).map attrT = l := by
  induction l with
  | nil => rfl
  | cons x l ih =>
    unfold attrsOk at h ih
    rw [List.all_cons, Bool.and_eq_true] at h
    obtain ⟨a, ha⟩ := Option.isSome_iff_exists.1 h.1
    have e : attrsOf (x :: l) = (attrOf x).getD default :: attrsOf l := rfl
    rw [e, List.map_cons, ih h.2, ha, Option.getD_some, (attrOf_some ha).2]
/-- A text that is read as a schema is that schema's. -/
theorem schemaOf_some {s : ByteArray} {d : SchemaD} (h : schemaOf s = some d) : schemaB d = true ∧ schemaT d = s := by
  unfold schemaOf at h
  split at h
  · rename_i h2
    obtain ⟨x, y, hp, hs, hx, hy⟩ := parts_pair (s := s) (b := 124) h2
    have hp' : parts s 124 = [x, y] := hp
    rw [hp'] at h
    simp only [List.getElem?_cons_zero, List.getElem?_cons_succ, Option.getD_some] at h
    unfold schemaFB at h
    split at h
    · rename_i ho
      unfold keepS at h
      split at h
      · rename_i hb
        injection h with h
        subst h
        refine ⟨hb, ?_⟩
        rw [schemaT_yes hb]
        simp only [attrs_join ho]
        rw [show joinB (parts x 59) ⟨#[59]⟩ = x from joinB_parts x 59, show joinB (parts y 44) ⟨#[44]⟩ = y from joinB_parts y 44, hs]
      · cases h
    · cases h
  · cases h
/-- What the program reads. -/
def schemaC (ok : Bool) (x y : ByteArray) : Option SchemaD := if ok = true then schemaFB x y else none
theorem schemaB_bar {d : SchemaD} {p : ByteArray} (hp : p ∈ d.classes) (h : (124 : UInt8) ∈ p.data.toList) : schemaB d = false := by
  rcases hb : schemaB d with _ | _
  · rfl
  · exact (word_off (schemaB_words' hb p hp) (d := 124) (by decide) 124 h rfl).elim
theorem schemaC_eq {s x y : ByteArray} {ok : Bool} (h : CutP 124 s x y ok) : schemaC ok x y = schemaOf s := by
  rcases h with ⟨rfl, h⟩ | ⟨rfl, h, hx⟩
  · have e : parts s 124 = [s] := parts_one (b := 124) h
    unfold schemaC schemaOf
    rw [e, if_neg (by simp), if_neg (by simp)]
  · unfold schemaC
    rw [if_pos rfl]
    by_cases hy : offB 124 y
    · have e : parts s 124 = [x, y] := by rw [h]; exact parts_two (b := 124) hx hy
      unfold schemaOf
      rw [e]
      simp
    · have e : ¬ (parts s 124).length = 2 := fun e => by
        obtain ⟨u, v, -, hs, hu, hv⟩ := parts_pair (s := s) (b := 124) e
        have hc : CutP 124 s x y true := .inr ⟨rfl, h, hx⟩
        obtain ⟨-, -, rfl⟩ := cut_at hc hs hu
        exact hy hv
      unfold schemaOf
      rw [if_neg e]
      unfold schemaFB
      split
      · unfold keepS
        rw [if_neg]
        intro hb
        unfold offB at hy
        simp only [Classical.not_forall, Classical.not_not, exists_prop] at hy
        obtain ⟨c, hc, rfl⟩ := hy
        rw [← show joinB (parts y 44) ⟨#[44]⟩ = y from joinB_parts y 44] at hc
        rcases mem_joinB hc with hc | ⟨p, hp, hc⟩
        · cases hc
        · rw [schemaB_bar (d := ⟨_, parts y 44⟩) hp hc] at hb
          cases hb
      · rfl
end Go.Proofs.YtohodehmidbmlaaDoor
namespace Go.Proofs.YtohodehmidbmlaaDoor
open Go.RowKit

abbrev quest : ByteArray := ⟨#[63]⟩
theorem idxI_bd {α : Type} (p : α → Bool) (l : List α) : -1 ≤ idxI p l ∧ idxI p l ≤ (l.length : Int) - 1 := by
  unfold idxI
  split
  · rename_i i h
    obtain ⟨h1, -⟩ := List.findIdx?_eq_some_iff_getElem.1 h
    omega
  · omega
/-- The bin of a cell's text, and whether there is one. -/
def cellP (a : AttrD) (s : ByteArray) : Int × Bool :=
  if s = quest then (-1, true) else if 0 < a.vals.length then (idxI (fun y => decide (s = y)) a.vals, decide (0 ≤ idxI (fun y => decide (s = y)) a.vals)) else ((binI a.cuts (rdS s).1 : Int), (rdS s).2)
theorem cellP_q {a : AttrD} {s : ByteArray} (h : s = quest) : cellP a s = (-1, true) := by unfold cellP; rw [if_pos h]
theorem cellP_val {a : AttrD} {s : ByteArray} (h : ¬ s = quest) (hv : 0 < a.vals.length) : cellP a s = (idxI (fun y => decide (s = y)) a.vals, decide (0 ≤ idxI (fun y => decide (s = y)) a.vals)) := by unfold cellP; rw [if_neg h, if_pos hv]
theorem cellP_cut {a : AttrD} {s : ByteArray} (h : ¬ s = quest) (hv : ¬ 0 < a.vals.length) : cellP a s = ((binI a.cuts (rdS s).1 : Int), (rdS s).2) := by unfold cellP; rw [if_neg h, if_neg hv]
theorem cellP_bd {a : AttrD} {s : ByteArray} (h : attrB a = true) : -1 ≤ (cellP a s).1 ∧ (cellP a s).1 ≤ binsOf a - 1 := by
  have hb := binsOf_bd a
  rcases attrB_parts h with ⟨h1, h2, h3, h4⟩ | ⟨h1, h2, h3, h4, h5⟩
  · by_cases hq : s = quest
    · rw [cellP_q hq]; simp; omega
    · rw [cellP_val hq (by omega), h4]
      exact idxI_bd _ _
  · by_cases hq : s = quest
    · rw [cellP_q hq]; simp; omega
    · rw [cellP_cut hq (by omega), h4]
      have := binI_le a.cuts (rdS s).1
      simp only
      omega
def rowOkAt (d : SchemaD) (cells : List ByteArray) (i : Nat) : Bool := (cellP (d.attrs[i]?.getD default) (cells[i]?.getD ByteArray.empty)).2
def rowBins (d : SchemaD) (cells : List ByteArray) (k : Nat) : List Int := (List.range k).map fun i => (cellP (d.attrs[i]?.getD default) (cells[i]?.getD ByteArray.empty)).1
theorem rowBins_snoc (d : SchemaD) (cells : List ByteArray) (k : Nat) : rowBins d cells (k + 1) = rowBins d cells k ++ [(cellP (d.attrs[k]?.getD default) (cells[k]?.getD ByteArray.empty)).1] := by
  unfold rowBins; simp [List.range_succ]
theorem rowBins_len (d : SchemaD) (cells : List ByteArray) (k : Nat) : (rowBins d cells k).length = k := by simp [rowBins]
def exNone : ExD := ⟨[], 0⟩
def clsP (d : SchemaD) (s : ByteArray) : Int := idxI (fun y => decide (s = y)) d.classes
/-- What the cells and the class give. -/
def rowCells (d : SchemaD) (cells : List ByteArray) (cl : ByteArray) : ExD × Int × Int :=
  match (List.range cells.length).find? (fun i => !rowOkAt d cells i) with
  | some i => (exNone, 5, i)
  | none => if clsP d cl < 0 ∧ ¬ cl = quest then (exNone, 6, 0) else (⟨rowBins d cells cells.length, clsP d cl⟩, 0, 0)
/-- What a row gives: an example, a reason, a place. -/
def rowOf (d : SchemaD) (row : ByteArray) : ExD × Int × Int :=
  if schemaB d = false then (exNone, 1, 0) else if 80 < row.size then (exNone, 2, 0)
  else if ¬ (parts row 124).length = 2 then (exNone, 3, 0)
  else if ¬ (parts ((parts row 124)[0]?.getD ByteArray.empty) 44).length = d.attrs.length then (exNone, 4, 0)
  else rowCells d (parts ((parts row 124)[0]?.getD ByteArray.empty) 44) ((parts row 124)[1]?.getD ByteArray.empty)
section
variable {d : SchemaD} {row : ByteArray}
theorem rowOf_schema (h : schemaB d = false) : rowOf d row = (exNone, 1, 0) := by unfold rowOf; rw [if_pos h]
theorem rowOf_long (h : schemaB d = true) (h2 : 80 < row.size) : rowOf d row = (exNone, 2, 0) := by unfold rowOf; rw [if_neg (by simp [h]), if_pos h2]
theorem rowOf_bar (h : schemaB d = true) (h2 : ¬ 80 < row.size) (h3 : ¬ (parts row 124).length = 2) : rowOf d row = (exNone, 3, 0) := by unfold rowOf; rw [if_neg (by simp [h]), if_neg h2, if_pos h3]
theorem rowOf_count (h : schemaB d = true) (h2 : ¬ 80 < row.size) (h3 : (parts row 124).length = 2) (h4 : ¬ (parts ((parts row 124)[0]?.getD ByteArray.empty) 44).length = d.attrs.length) : rowOf d row = (exNone, 4, 0) := by
  unfold rowOf; rw [if_neg (by simp [h]), if_neg h2, if_neg (by simp [h3]), if_pos h4]
theorem rowOf_cells (h : schemaB d = true) (h2 : ¬ 80 < row.size) (h3 : (parts row 124).length = 2) (h4 : (parts ((parts row 124)[0]?.getD ByteArray.empty) 44).length = d.attrs.length) : rowOf d row = rowCells d (parts ((parts row 124)[0]?.getD ByteArray.empty) 44) ((parts row 124)[1]?.getD ByteArray.empty) := by
  unfold rowOf; rw [if_neg (by simp [h]), if_neg h2, if_neg (by simp [h3]), if_neg (by simp [h4])]
end
theorem find_bad {p : Nat → Bool} {n k : Nat} (hk : k < n) (h : (List.range k).all p = true) (hb : p k = false) : (List.range n).find? (fun i => !p i) = some k := by
  rw [List.find?_range_eq_some]
  refine ⟨by simp [hb], by simpa using hk, fun j hj => ?_⟩
  rw [List.all_eq_true] at h
  simp [h j (by simpa using hj)]
theorem find_none {p : Nat → Bool} {n : Nat} (h : (List.range n).all p = true) : (List.range n).find? (fun i => !p i) = none := by
  rw [List.find?_eq_none]
  rw [List.all_eq_true] at h
  intro x hx
  simp [h x hx]
theorem rowCells_bad {d : SchemaD} {cells : List ByteArray} {cl : ByteArray} {k : Nat} (hk : k < cells.length) (h : (List.range k).all (rowOkAt d cells) = true) (hb : rowOkAt d cells k = false) : rowCells d cells cl = (exNone, 5, (k : Int)) := by
  unfold rowCells; rw [find_bad hk h hb]
theorem rowCells_cls {d : SchemaD} {cells : List ByteArray} {cl : ByteArray} (h : (List.range cells.length).all (rowOkAt d cells) = true) (h1 : clsP d cl < 0) (h2 : ¬ cl = quest) : rowCells d cells cl = (exNone, 6, 0) := by
  unfold rowCells; rw [find_none h]; simp only [if_pos (And.intro h1 h2)]
theorem rowCells_ok {d : SchemaD} {cells : List ByteArray} {cl : ByteArray} (h : (List.range cells.length).all (rowOkAt d cells) = true) (h1 : ¬ (clsP d cl < 0 ∧ ¬ cl = quest)) : rowCells d cells cl = (⟨rowBins d cells cells.length, clsP d cl⟩, 0, 0) := by
  unfold rowCells; rw [find_none h]; simp only [if_neg h1]
theorem quest_noword : wordB quest = false := by decide
theorem clsP_q {d : SchemaD} (h : schemaB d = true) : clsP d quest = -1 := by
  refine idxI_none fun x hx => ?_
  rw [decide_eq_false_iff_not]
  rintro rfl
  have := schemaB_words' h _ hx
  rw [quest_noword] at this
  cases this
theorem attr_at {d : SchemaD} (h : schemaB d = true) {i : Nat} (hi : i < d.attrs.length) : attrB (d.attrs[i]?.getD default) = true := by
  obtain ⟨-, -, -, h4⟩ := schemaB_parts h
  rw [getD_of_lt hi]
  exact h4 _ (List.getElem_mem hi)
/-- A row is read as a right example, or refused with one reason. -/
theorem rowOf_law (d : SchemaD) (row : ByteArray) :
    ((rowOf d row).2.1 = 0 ∧ (rowOf d row).2.2 = 0 ∧ exB d (rowOf d row).1 = true ∧ schemaB d = true) ∨
    ((rowOf d row).1 = exNone ∧ 1 ≤ (rowOf d row).2.1 ∧ (rowOf d row).2.1 ≤ 6 ∧ 0 ≤ (rowOf d row).2.2 ∧ ((rowOf d row).2.2 = 0 ∨ ((rowOf d row).2.1 = 5 ∧ (rowOf d row).2.2 < d.attrs.length)) ∧ ((rowOf d row).2.1 = 1 ↔ schemaB d = false)) := by
  rcases hs : schemaB d with _ | _
  · rw [rowOf_schema hs]
    exact .inr ⟨rfl, by simp, by simp, by simp, .inl rfl, by simp⟩
  · by_cases h2 : 80 < row.size
    · rw [rowOf_long hs h2]
      exact .inr ⟨rfl, by simp, by simp, by simp, .inl rfl, by simp⟩
    · by_cases h3 : (parts row 124).length = 2
      · by_cases h4 : (parts ((parts row 124)[0]?.getD ByteArray.empty) 44).length = d.attrs.length
        · rw [rowOf_cells hs h2 h3 h4]
          generalize hC : parts ((parts row 124)[0]?.getD ByteArray.empty) 44 = cells at *
          generalize (parts row 124)[1]?.getD ByteArray.empty = cl
          rcases ha : (List.range cells.length).find? (fun i => !rowOkAt d cells i) with _ | i
          · have hall : (List.range cells.length).all (rowOkAt d cells) = true := by
              rw [List.find?_eq_none] at ha
              rw [List.all_eq_true]
              intro x hx
              simpa using ha x hx
            by_cases h1 : clsP d cl < 0 ∧ ¬ cl = quest
            · rw [rowCells_cls hall h1.1 h1.2]
              exact .inr ⟨rfl, by simp, by simp, by simp, .inl rfl, by simp⟩
            · rw [rowCells_ok hall h1]
              refine .inl ⟨rfl, rfl, exB_all hs ?_ ?_ ?_, rfl⟩
              · show (rowBins d cells cells.length).length = _
                rw [rowBins_len, h4]
              · have := idxI_bd (fun y => decide (cl = y)) d.classes
                exact inB_iff.2 this
              · show (List.range (rowBins d cells cells.length).length).all _ = true
                rw [rowBins_len, List.all_eq_true]
                intro i hi
                have hi' : i < cells.length := by simpa using hi
                have e : (rowBins d cells cells.length)[i]?.getD 0 = (cellP (d.attrs[i]?.getD default) (cells[i]?.getD ByteArray.empty)).1 := by simp [rowBins, hi']
                unfold fitB
                rw [show (⟨rowBins d cells cells.length, clsP d cl⟩ : ExD).bins = rowBins d cells cells.length from rfl, e]
                exact inB_iff.2 (cellP_bd (attr_at hs (by omega)))
          · have hi := List.mem_of_find?_eq_some ha
            have hi' : i < cells.length := by simpa using hi
            have e : rowCells d cells cl = (exNone, 5, (i : Int)) := by unfold rowCells; rw [ha]
            rw [e]
            exact .inr ⟨rfl, by simp, by simp, by simp, .inr ⟨rfl, by simp only; omega⟩, by simp⟩
        · rw [rowOf_count hs h2 h3 h4]
          exact .inr ⟨rfl, by simp, by simp, by simp, .inl rfl, by simp⟩
      · rw [rowOf_bar hs h2 h3]
        exact .inr ⟨rfl, by simp, by simp, by simp, .inl rfl, by simp⟩

/-! An example's text is read as it was. -/
theorem ascB_three {l : List Int} (h : ascB l = true) (hn : l.length ≤ 3) {b : Nat} (hb : b < l.length) : binI l (l[b]?.getD 0) = b := by
  rw [ascB_iff] at h
  match l, hn with
  | [], _ => simp at hb
  | [x], _ =>
    obtain rfl : b = 0 := by simp at hb; omega
    simp [binI]
  | [x, y], _ =>
    have h0 := h 0 (by simp)
    simp at h0
    rcases (show b = 0 ∨ b = 1 by simp at hb; omega) with rfl | rfl
    · simp [binI, List.filter_cons]; omega
    · simp [binI, h0]
  | [x, y, z], _ =>
    have h0 := h 0 (by simp)
    have h1 := h 1 (by simp)
    simp at h0 h1
    rcases (show b = 0 ∨ b = 1 ∨ b = 2 by simp at hb; omega) with rfl | rfl | rfl
    · have e1 : ¬ y < x := by omega
      have e2 : ¬ z < x := by omega
      simp [binI, e1, e2]
    · have e2 : ¬ z < y := by omega
      simp [binI, h0, e2]
    · have e2 : x < z := by omega
      simp [binI, h1, e2]
  | _ :: _ :: _ :: _ :: _, hn => simp at hn
theorem ascB_last {l : List Int} (h : ascB l = true) (hn : l.length ≤ 3) (h0 : 0 < l.length) : binI l (l[l.length - 1]?.getD 0 + 1) = l.length := by
  rw [ascB_iff] at h
  match l, hn with
  | [], _ => simp at h0
  | [x], _ =>
    have e : x < x + 1 := by omega
    simp [binI, e]
  | [x, y], _ =>
    have h0 := h 0 (by simp)
    simp at h0
    have e1 : x < y + 1 := by omega
    have e2 : y < y + 1 := by omega
    simp [binI, e1, e2]
  | [x, y, z], _ =>
    have h0 := h 0 (by simp)
    have h1 := h 1 (by simp)
    simp at h0 h1
    have e1 : x < z + 1 := by omega
    have e2 : y < z + 1 := by omega
    have e3 : z < z + 1 := by omega
    simp [binI, e1, e2, e3]
  | _ :: _ :: _ :: _ :: _, hn => simp at hn
theorem idx_nodup {l : List ByteArray} (h : l.Nodup) {b : Nat} (hb : b < l.length) : idxI (fun y => decide ((l[b]?.getD ByteArray.empty) = y)) l = b := by
  refine idxI_hit ByteArray.empty hb (by simp) fun y hy => ?_
  rw [decide_eq_false_iff_not]
  rintro rfl
  rw [List.mem_take_iff_getElem] at hy
  obtain ⟨j, hj, e⟩ := hy
  rw [List.getElem?_eq_getElem hb, Option.getD_some] at e
  exact (List.pairwise_iff_getElem.1 (show l.Pairwise (· ≠ ·) from h)) j b (by omega) hb (by omega) e
theorem attrB_nodup {a : AttrD} (h : attrB a = true) (hc : a.cuts.length = 0) : a.vals.Nodup ∧ ∀ s ∈ a.vals, wordB s = true := by
  have h1 := attrB_few (attrB_word h) hc
  rw [h] at h1
  have h2 := h1.symm
  rw [Bool.and_eq_true] at h2
  unfold wordsB at h2
  rw [Bool.and_eq_true, List.all_eq_true, decide_eq_true_eq] at h2
  exact ⟨h2.2.2, h2.2.1⟩
theorem attrB_asc {a : AttrD} (h : attrB a = true) (hc : a.cuts.length ≠ 0) : ascB a.cuts = true := by
  have h1 := attrB_cuts (attrB_word h) hc
  rw [h] at h1
  have h2 := h1.symm
  rw [Bool.and_eq_true] at h2
  unfold cutsB at h2
  rw [Bool.and_eq_true, Bool.and_eq_true] at h2
  exact h2.2.2.1
theorem num_noq (x : Int) : ¬ numB x = quest := by
  intro h
  have := numB_bytes x 63 (by rw [h]; simp)
  simp at this
theorem word_noq {s : ByteArray} (h : wordB s = true) : ¬ s = quest := by
  rintro rfl
  rw [quest_noword] at h
  cases h
/-- A cell's text leads to its bin. -/
theorem cell_rt {a : AttrD} {b : Int} (h : attrB a = true) (hb : inB b (-1) (binsOf a - 1) = true) : cellP a (cellT a b) = (b, true) := by
  have hb2 := inB_iff.1 hb
  by_cases h1 : b = -1
  · rw [cellT_open h hb h1, cellP_q rfl, h1]
  · rcases attrB_parts h with ⟨g1, g2, g3, g4⟩ | ⟨g1, g2, g3, g4, g5⟩
    · obtain ⟨k1, k2⟩ := attrB_nodup h g1
      have hlt : b.toNat < a.vals.length := by omega
      have hw : wordB (a.vals[b.toNat]?.getD ByteArray.empty) = true := by
        rw [List.getElem?_eq_getElem hlt, Option.getD_some]; exact k2 _ (List.getElem_mem hlt)
      rw [cellT_val h hb h1 (by omega), cellP_val (word_noq hw) (by omega), idx_nodup k1 hlt]
      have : ((b.toNat : Nat) : Int) = b := by omega
      rw [this, decide_eq_true (by omega)]
    · have ha := attrB_asc h (by omega)
      by_cases hc : b < a.cuts.length
      · have hlt : b.toNat < a.cuts.length := by omega
        have hr := g5 _ hlt
        rw [cellT_cut h hb h1 (by omega) hc, cellP_cut (num_noq _) (by omega), rdS_num hr.1 (by omega)]
        simp only
        rw [ascB_three ha g3 hlt]
        congr 1
        omega
      · have hr := g5 (a.cuts.length - 1) (by omega)
        rw [cellT_end h hb h1 (by omega) hc, cellP_cut (num_noq _) (by omega), rdS_num (by omega) (by omega)]
        simp only
        rw [ascB_last ha g3 (by omega)]
        congr 1
        omega
theorem cell_off {a : AttrD} {b : Int} (h : attrB a = true) (hb : inB b (-1) (binsOf a - 1) = true) {d : UInt8} (hd : d = 44 ∨ d = 124) : offB d (cellT a b) := by
  have hb2 := inB_iff.1 hb
  have hq : offB d quest := off_one (by rcases hd with rfl | rfl <;> decide)
  have hn : ∀ x, offB d (numB x) := fun x => by rcases hd with rfl | rfl <;> exact num_off (by decide) (by decide)
  by_cases h1 : b = -1
  · rw [cellT_open h hb h1]; exact hq
  · rcases attrB_parts h with ⟨g1, g2, g3, g4⟩ | ⟨g1, g2, g3, g4, g5⟩
    · obtain ⟨k1, k2⟩ := attrB_nodup h g1
      have hlt : b.toNat < a.vals.length := by omega
      rw [cellT_val h hb h1 (by omega), List.getElem?_eq_getElem hlt, Option.getD_some]
      exact word_off (k2 _ (List.getElem_mem hlt)) (by rcases hd with rfl | rfl <;> decide)
    · by_cases hc : b < a.cuts.length
      · rw [cellT_cut h hb h1 (by omega) hc]; exact hn _
      · rw [cellT_end h hb h1 (by omega) hc]; exact hn _
theorem cell_small {a : AttrD} {b : Int} (h : attrB a = true) (hb : inB b (-1) (binsOf a - 1) = true) : (cellT a b).size ≤ 8 := by
  have hb2 := inB_iff.1 hb
  by_cases h1 : b = -1
  · rw [cellT_open h hb h1]; decide
  · rcases attrB_parts h with ⟨g1, g2, g3, g4⟩ | ⟨g1, g2, g3, g4, g5⟩
    · have hlt : b.toNat < a.vals.length := by omega
      rw [cellT_val h hb h1 (by omega), List.getElem?_eq_getElem hlt, Option.getD_some]
      exact (attrB_words h g1 _ (List.getElem_mem hlt)).2
    · by_cases hc : b < a.cuts.length
      · have hr := g5 b.toNat (by omega)
        rw [cellT_cut h hb h1 (by omega) hc]
        have := numB_size5 (v := a.cuts[b.toNat]?.getD 0) (by omega) (by omega) rfl
        omega
      · have hr := g5 (a.cuts.length - 1) (by omega)
        rw [cellT_end h hb h1 (by omega) hc]
        have := numB_size5 (v := a.cuts[a.cuts.length - 1]?.getD 0 + 1) (by omega) (by omega) rfl
        omega
theorem exB_at {d : SchemaD} {e : ExD} (h : exB d e = true) {i : Nat} (hi : i < d.attrs.length) : inB (e.bins[i]?.getD 0) (-1) (binsOf (d.attrs[i]?.getD default) - 1) = true := by
  obtain ⟨-, h2, -, h4⟩ := exB_parts h
  exact h4 i (by omega)
theorem clsT_rt {d : SchemaD} {e : ExD} (h : exB d e = true) : clsP d (clsT d e) = e.cls ∧ (e.cls < 0 → clsT d e = quest) ∧ offB 124 (clsT d e) := by
  obtain ⟨h1, -, h3, -⟩ := exB_parts h
  by_cases hc : 0 ≤ e.cls
  · have hlt : e.cls.toNat < d.classes.length := by omega
    have hn : d.classes.Nodup := by
      unfold schemaB at h1
      simp only [Bool.and_eq_true] at h1
      have h2 := h1.2.2.1
      unfold wordsB at h2
      rw [Bool.and_eq_true, decide_eq_true_eq] at h2
      exact h2.2
    unfold clsT
    rw [if_pos hc]
    refine ⟨?_, fun h => by omega, ?_⟩
    · unfold clsP
      rw [idx_nodup hn hlt]; omega
    · rw [List.getElem?_eq_getElem hlt, Option.getD_some]
      exact word_off (schemaB_words' h1 _ (List.getElem_mem hlt)) (by decide)
  · unfold clsT
    rw [if_neg hc]
    refine ⟨?_, fun _ => rfl, off_one (by decide)⟩
    rw [show (⟨#[63]⟩ : ByteArray) = quest from rfl, clsP_q h1]; omega
theorem exT_pos {d : SchemaD} {e : ExD} (h : exB d e = true) : ¬ exT d e = ⟨#[]⟩ := by
  intro h2
  rw [exT_yes h] at h2
  have := congrArg ByteArray.size h2
  rw [ByteArray.size_append, ByteArray.size_append] at this
  have e1 : (⟨#[124]⟩ : ByteArray).size = 1 := rfl
  have e2 : (⟨#[]⟩ : ByteArray).size = 0 := rfl
  omega
theorem rowOf_rt {d : SchemaD} {e : ExD} (h : exB d e = true) : rowOf d (exT d e) = (e, 0, 0) := by
  obtain ⟨h1, h2, h3, h4⟩ := exB_parts h
  obtain ⟨hb1, -, -, -⟩ := schemaB_parts h1
  obtain ⟨c1, c2, c3⟩ := clsT_rt h
  have hat : ∀ p ∈ cellsT d e e.bins.length, ∃ i, i < d.attrs.length ∧ p = cellT (d.attrs[i]?.getD default) (e.bins[i]?.getD 0) := by
    intro p hp
    unfold cellsT at hp
    obtain ⟨i, hi, rfl⟩ := List.mem_map.1 hp
    exact ⟨i, by have := List.mem_range.1 hi; omega, rfl⟩
  have hlen := cellsT_len d e e.bins.length
  have p1 : parts (exT d e) 124 = [joinB (cellsT d e e.bins.length) ⟨#[44]⟩, clsT d e] := by
    rw [exT_yes h]
    refine parts_two (b := 124) (off_joinB (by decide) fun p hp => ?_) c3
    obtain ⟨i, hi, rfl⟩ := hat p hp
    exact cell_off (attr_at h1 hi) (exB_at h hi) (.inr rfl)
  have p2 : parts (joinB (cellsT d e e.bins.length) ⟨#[44]⟩) 44 = cellsT d e e.bins.length := by
    refine parts_joinB (b := 44) (by omega) fun p hp => ?_
    obtain ⟨i, hi, rfl⟩ := hat p hp
    exact cell_off (attr_at h1 hi) (exB_at h hi) (.inl rfl)
  have hsz : ¬ 80 < (exT d e).size := by
    rw [exT_yes h, ByteArray.size_append, ByteArray.size_append]
    have k1 := joinB_size (l := cellsT d e e.bins.length) (sep := ⟨#[44]⟩) (M := 8) fun p hp => by
      obtain ⟨i, hi, rfl⟩ := hat p hp
      exact cell_small (attr_at h1 hi) (exB_at h hi)
    have k2 := clsT_size h
    have e1 : (⟨#[44]⟩ : ByteArray).size = 1 := rfl
    have e2 : (⟨#[124]⟩ : ByteArray).size = 1 := rfl
    rw [hlen, e1] at k1
    omega
  rw [rowOf_cells h1 hsz (by rw [p1]; rfl) (by rw [p1]; simp only [List.getElem?_cons_zero, Option.getD_some]; rw [p2, hlen, h2]), p1]
  simp only [List.getElem?_cons_zero, List.getElem?_cons_succ, Option.getD_some]
  rw [p2]
  have hcell : ∀ i, i < e.bins.length → cellP (d.attrs[i]?.getD default) ((cellsT d e e.bins.length)[i]?.getD ByteArray.empty) = (e.bins[i]?.getD 0, true) := by
    intro i hi
    have e1 : (cellsT d e e.bins.length)[i]?.getD ByteArray.empty = cellT (d.attrs[i]?.getD default) (e.bins[i]?.getD 0) := by simp [cellsT, hi]
    rw [e1]
    exact cell_rt (attr_at h1 (by omega)) (exB_at h (by omega))
  rw [rowCells_ok ?_ ?_]
  · rw [hlen, c1]
    have e2 : rowBins d (cellsT d e e.bins.length) e.bins.length = e.bins := by
      apply List.ext_getElem?
      intro i
      rcases Nat.lt_or_ge i e.bins.length with hi | hi
      · unfold rowBins
        rw [List.getElem?_map, List.getElem?_range hi, Option.map_some, hcell i hi, List.getElem?_eq_getElem hi]
        rfl
      · rw [List.getElem?_eq_none (by rw [rowBins_len]; exact hi), List.getElem?_eq_none hi]
    rw [e2]
  · rw [hlen, List.all_eq_true]
    intro i hi
    unfold rowOkAt
    rw [hcell i (List.mem_range.1 hi)]
  · rw [c1]
    rintro ⟨k1, k2⟩
    exact k2 (c2 k1)
end Go.Proofs.YtohodehmidbmlaaDoor
namespace Go.Proofs.YtohodehmidbmlaaDoor
open Go.RowKit
set_option maxRecDepth 100000

set_option maxHeartbeats 1000000 in
theorem l7Place_any (A : Option Addr) (n c : Nat) (l : List ByteArray) (x : ByteArray) (w : World) (hl : Strs w A n l) (hn : n ≤ 2097152) :
    Calls Tryd.prog 84 #[.slice A n c, .string x] w fun e w' => e = .returned (.int .i64 (idxI (fun y => decide (x = y)) l)) ∧ w = w' := by
  have HL := hide hl
  clear hl
  go_enter Tryd.func84, Tryd.ntmps84
  go_wp2_with (fail)
  go_loop [5] (fun i => ∃ k : Nat, k ≤ n ∧ i = .int .i64 k ∧ Hid (∀ y ∈ l.take k, decide (x = y) = false)) (fun i => n - (intOf i).toNat)
  case atStart => exact ⟨0, Nat.zero_le _, rfl, fun x hx => by simp at hx⟩
  case round =>
    obtain ⟨k, hk, rfl, hno⟩ := hrel
    by_cases hlt : k < n
    · obtain ⟨ad, rfl, _, hcell⟩ := (HL.out).at_ hlt
      have hl1 := hide (show k < l.length by have := (HL.out).1; omega)
      by_cases he : x = l[k]?.getD ByteArray.empty
      · have hfin := hide (idxI_hit (p := fun y => decide (x = y)) ByteArray.empty hl1.out (by simpa using he) hno.out)
        have hb : ((l[k]?.getD ByteArray.empty).toList == x.toList) = true := str_beq he.symm
        clear he
        go_wp2
        go_ret
        exact ⟨ret_int hfin.out.symm, rfl⟩
      · have hn' := hide (none_snoc (p := fun y => decide (x = y)) ByteArray.empty hl1.out (by simpa using he) hno.out)
        have hb : ((l[k]?.getD ByteArray.empty).toList == x.toList) = false := str_beq_no (Ne.symm he)
        clear he hno
        go_wp2
        go_round
        case rel => exact ⟨k + 1, by omega, by go_num, hn'⟩
        case measure => simp [intOf]; omega
    · have h := hno.out
      rw [List.take_of_length_le (by have := (HL.out).1; omega)] at h
      have hfin := hide (idxI_none h)
      clear h
      go_wp2
      go_ret
      exact ⟨ret_int hfin.out.symm, rfl⟩

theorem quest_list : (⟨#[63]⟩ : ByteArray).toList = [63] := by rw [ByteArray.toList_eq]
theorem q_yes {s : ByteArray} (h : s = quest) : (s.toList == [63]) = true := by
  subst h
  show ((⟨#[63]⟩ : ByteArray).toList == [63]) = true
  rw [quest_list]
  rfl
theorem q_no {s : ByteArray} (h : ¬ s = quest) : (s.toList == [63]) = false := by
  rw [← quest_list]
  exact str_beq_no h
/-- How a reading of a cell ends. -/
def CellPost (a : AttrD) (s : ByteArray) (w : World) (e : Ending) (w' : World) : Prop := ∃ x : Int, e = .returned (.tuple #[.int .i64 x, .bool (cellP a s).2]) ∧ ((cellP a s).2 = true → x = (cellP a s).1) ∧ Below w.heap.size w w'

set_option maxHeartbeats 2000000 in
theorem l7Cell_any (A1 : Option Addr) (n1 c1 : Nat) (A2 : Option Addr) (n2 c2 : Nat) (a : AttrD) (s : ByteArray) (w : World) (h : AttrM w A1 n1 c1 A2 n2 c2 a) (hs : s.size ≤ 1048576) :
    Calls Tryd.prog 83 #[.agg #[.string a.name, .slice A1 n1 c1, .slice A2 n2 c2], .string s] w (CellPost a s w) := by
  have hn1 := h.b1
  have hn2 := h.b2
  have hbox : Below w.heap.size w (w.alloc (.cells #[.string a.name, .slice A1 n1 c1, .slice A2 n2 c2] 64)) := (Below.refl _ _).alloc (Nat.le_refl _) _
  have hX := Box3.new w (.string a.name) (.slice A1 n1 c1) (.slice A2 n2 c2) 64
  have HV := hide (h.keep hbox)
  have hl2 := hide h.vals.1
  clear h
  by_cases hq : s = quest
  · have hfin := hide (cellP_q (a := a) hq)
    have hb : (s.toList == [63]) = true := q_yes hq
    clear hq
    go_enter Tryd.func83, Tryd.ntmps83
    go_wp2
    go_ret2
    exact ⟨-1, by rw [hfin.out]; rfl, fun _ => by rw [hfin.out], hbox⟩
  have hb : (s.toList == [63]) = false := q_no hq
  have HQ := hide hq
  clear hq
  obtain ⟨k0, k1, k2, k3⟩ := id hX
  by_cases hv : 0 < n2
  · have hfin := hide (cellP_val (a := a) HQ.out (by have := hl2.out; omega))
    obtain ⟨x, hx⟩ : ∃ x, x = idxI (fun y => decide (s = y)) a.vals := ⟨_, rfl⟩
    have hxb := idxI_bd (fun y => decide (s = y)) a.vals
    rw [← hx] at hxb hfin
    have HX := hide hx
    clear hx
    go_enter Tryd.func83, Tryd.ntmps83
    go_wp2_with (fail)
    refine (l7Place_any A2 n2 c2 a.vals s _ HV.out.vals (by omega)).mono ?_
    rintro e w1 ⟨rfl, rfl⟩
    rw [← HX.out]
    rcases (show 0 ≤ x ∨ x < 0 by omega) with h0 | h0
    · have hd : decide (0 ≤ x) = true := decide_eq_true h0
      go_wp2
      go_ret2
      exact ⟨x, by rw [hfin.out, hd]; rfl, fun _ => by rw [hfin.out], hbox⟩
    · have hd : decide (0 ≤ x) = false := decide_eq_false (by omega)
      go_wp2
      go_ret2
      exact ⟨x, by rw [hfin.out, hd]; rfl, fun _ => by rw [hfin.out], hbox⟩
  · have hfin := hide (cellP_cut (a := a) HQ.out (by have := hl2.out; omega))
    obtain rfl : n2 = 0 := by omega
    obtain ⟨v, ok, hv⟩ : ∃ v ok, rdI s (-9999) 9999 = (v, ok) := ⟨_, _, rfl⟩
    have hrd := hide (show rdS s = (v, ok) from hv)
    go_enter Tryd.func83, Tryd.ntmps83
    go_wp2_with (fail)
    refine (specSigned_any s hs _).mono ?_
    rintro e w1 ⟨rfl, hb1⟩
    rw [hv]
    clear hv
    have hB := bthen hbox hb1
    replace hX := hX.keep hb1
    replace HV := hide (HV.out.keep hb1)
    clear hb1 k0 k1 k2 k3
    obtain ⟨k0, k1, k2, k3⟩ := id hX
    cases ok
    · go_wp2
      go_ret2
      exact ⟨0, by rw [hfin.out, hrd.out]; rfl, fun h => (by rw [hfin.out, hrd.out] at h; cases h), hB⟩
    · go_wp2_with (fail)
      refine (specBinOf_any A1 n1 c1 a.cuts v _ HV.out.cuts (by omega)).mono ?_
      rintro e w2 ⟨rfl, rfl⟩
      go_wp2
      go_ret2
      exact ⟨binI a.cuts v, by rw [hfin.out, hrd.out]; rfl, fun _ => by rw [hfin.out, hrd.out], hB⟩

set_option maxHeartbeats 8000000 in
theorem cellBin_any (A1 : Option Addr) (n1 c1 : Nat) (A2 : Option Addr) (n2 c2 : Nat) (a : AttrD) (s : ByteArray) (w : World) (h : AttrM w A1 n1 c1 A2 n2 c2 a) (hs : s.size ≤ 1048576) (hok : attrB a = true) (hd : DoorW w) :
    Calls Tryd.prog 88 #[.agg #[.string a.name, .slice A1 n1 c1, .slice A2 n2 c2], .string s] w (CellPost a s w) := by
  have hn1 := h.b1
  have hn2 := h.b2
  have hbox : Below w.heap.size w (w.alloc (.cells #[.string a.name, .slice A1 n1 c1, .slice A2 n2 c2] 64)) := (Below.refl _ _).alloc (Nat.le_refl _) _
  have hX := Box3.new w (.string a.name) (.slice A1 n1 c1) (.slice A2 n2 c2) 64
  have HV := hide (h.keep hbox)
  have HD := hide (hd.keep hbox)
  have hl1 := h.cuts.1
  have hl2 := h.vals.1
  have hvc : (n1 = 0 ∧ 0 < n2) ∨ (n2 = 0 ∧ 0 < n1) := by rcases attrB_parts hok with h | h <;> omega
  replace hl2 := hide hl2
  clear h hd hl1 hok
  by_cases hq : s = quest
  · have hfin := hide (cellP_q (a := a) hq)
    have hb : (s.toList == [63]) = true := q_yes hq
    clear hq
    go_enter Tryd.func88, Tryd.ntmps88
    go_wp2
    go_ret2
    exact ⟨-1, by rw [hfin.out]; rfl, fun _ => by rw [hfin.out], hbox⟩
  have hb : (s.toList == [63]) = false := q_no hq
  have HQ := hide hq
  clear hq
  obtain ⟨k0, k1, k2, k3⟩ := id hX
  rcases hvc with ⟨rfl, hv⟩ | ⟨rfl, hv⟩
  · have hfin := hide (cellP_val (a := a) HQ.out (by have := hl2.out; omega))
    obtain ⟨x, hx⟩ : ∃ x, x = idxI (fun y => decide (s = y)) a.vals := ⟨_, rfl⟩
    have hxb := idxI_bd (fun y => decide (s = y)) a.vals
    rw [← hx] at hxb hfin
    have HX := hide hx
    clear hx
    go_enter Tryd.func88, Tryd.ntmps88
    go_wp2_with (fail)
    refine (indexStr_any A2 n2 c2 a.vals s _ HV.out.vals (by omega)).mono ?_
    rintro e w1 ⟨rfl, rfl⟩
    rw [← HX.out]
    rcases (show 0 ≤ x ∨ x < 0 by omega) with h0 | h0
    · have hd : decide (0 ≤ x) = true := decide_eq_true h0
      go_wp2
      go_ret2
      exact ⟨x, by rw [hfin.out, hd]; rfl, fun _ => by rw [hfin.out], hbox⟩
    · have hd : decide (0 ≤ x) = false := decide_eq_false (by omega)
      go_wp2
      go_ret2
      exact ⟨x, by rw [hfin.out, hd]; rfl, fun _ => by rw [hfin.out], hbox⟩
  · have hfin := hide (cellP_cut (a := a) HQ.out (by have := hl2.out; omega))
    obtain ⟨v, ok, hv⟩ : ∃ v ok, rdI s (-9999) 9999 = (v, ok) := ⟨_, _, rfl⟩
    have hrd := hide (show rdS s = (v, ok) from hv)
    have hne : ((n1 : Int) == 0) = false := beq_eq_false_iff_ne.2 (by omega)
    go_enter Tryd.func88, Tryd.ntmps88
    go_wp2_with (fail)
    refine (implSigned_any s hs _ HD.out).mono ?_
    rintro e w1 ⟨rfl, hb1⟩
    rw [hv]
    clear hv
    have hB := bthen hbox hb1
    replace hX := hX.keep hb1
    replace HV := hide (HV.out.keep hb1)
    clear hb1 k0 k1 k2 k3
    obtain ⟨k0, k1, k2, k3⟩ := id hX
    go_wp2_with (fail)
    refine (implBinOf_any A1 n1 c1 a.cuts v _ HV.out.cuts (by omega)).mono ?_
    rintro e w2 ⟨rfl, rfl⟩
    go_wp2
    go_ret2
    exact ⟨binI a.cuts v, by rw [hfin.out, hrd.out]; rfl, fun _ => by rw [hfin.out, hrd.out], hB⟩
end Go.Proofs.YtohodehmidbmlaaDoor
namespace Go.Proofs.YtohodehmidbmlaaDoor
open Go.RowKit
set_option maxRecDepth 100000

theorem Bag.cat2 {B B' N M : Nat} {w : World} {r s : Nat → Row} (h : Bag B N w r) (hs : Bag B' M w s) (hB : B ≤ B') (hlt : ∀ k, has N r k → k < B') : Bag B (N + M) w (rcat N r s) := by
  have h2 := hs.mono hB
  have key : ∀ i j, i < N → j < M → (r i).apart (s j) := by
    intro i j hi hj
    unfold Row.apart
    rcases e1 : (r i).blk with _ | g
    · exact .inl rfl
    · refine .inr fun e => ?_
      have k1 := hlt g ⟨i, hi, e1⟩
      have k2 := ((hs.own j hj).lt g e.symm).1
      omega
  refine ⟨fun i hi => ?_, fun i j hi hj hij => ?_⟩
  · unfold rcat
    split
    · exact h.own i (by omega)
    · exact h2.own (i - N) (by omega)
  · unfold rcat
    split <;> split
    · exact h.sep i j (by omega) (by omega) hij
    · exact key i (j - N) (by omega) (by omega)
    · exact (key j (i - N) (by omega) (by omega)).symm
    · exact hs.sep (i - N) (j - N) (by omega) (by omega) (by omega)
/-- The rows of one attribute. -/
abbrev attrRows (D1 : Option Addr) (n1 m1 : Nat) (D2 : Option Addr) (n2 m2 : Nat) (a : AttrD) : Nat → Row := rpair (intRow D1 n1 m1 a.cuts) (strRow D2 n2 m2 a.vals)
/-- One attribute more at the end of attributes that own themselves. -/
theorem AttrsTo.snoc {B B' : Nat} {w1 w2 : World} {r : Nat → Row} {A D1 D2 : Option Addr} {n c n1 m1 n2 m2 : Nat} {ls : List AttrD} {a : AttrD} {v : Value}
    (h : AttrsTo r A n c ls n) (hb : Bag B (1 + 2 * n) w1 r) (ho : Bag B' 2 w1 (attrRows D1 n1 m1 D2 n2 m2 a)) (hB : B ≤ B') (hlt : ∀ k, has (1 + 2 * n) r k → k < B') (hB2 : B' ≤ w1.heap.size)
    (hv : w2.ownsRow B 64 3 v (n + 1) ((r 0).xs ++ [.string a.name, .slice D1 n1 m1, .slice D2 n2 m2])) (hg : w1.grownBy w2 (Value.ownBlock (.slice A n c)))
    (hnew : ∀ g, v.ownBlock = some g → Value.ownBlock (.slice A n c) = some g ∨ w1.heap.size ≤ g) :
    ∃ A2 c2 r', v = .slice A2 (n + 1) c2 ∧ Bag B (1 + 2 * (n + 1)) w2 r' ∧ AttrsTo r' A2 (n + 1) c2 (ls ++ [a]) (n + 1) ∧ ∀ k, has (1 + 2 * (n + 1)) r' k → has (1 + 2 * n) r k ∨ B' ≤ k := by
  have h1 := hb.cat2 ho hB hlt
  obtain ⟨e1, e2, e3, e4⟩ := h.head
  have hO := h.outer hb (by omega)
  have hxl : (r 0).xs.length = n * 3 := hO.1
  have hln := h.len
  obtain ⟨s, hs⟩ : ∃ s, s = rcat (1 + 2 * n) r (attrRows D1 n1 m1 D2 n2 m2 a) := ⟨_, rfl⟩
  rw [← hs] at h1
  have s0 : s 0 = r 0 := by rw [hs]; unfold rcat; rw [if_pos (by omega)]
  have sold : ∀ i, i < 1 + 2 * n → s i = r i := fun i hi => by rw [hs]; unfold rcat; rw [if_pos hi]
  have sn1 : s (1 + 2 * n) = intRow D1 n1 m1 a.cuts := by rw [hs]; unfold rcat attrRows rpair; rw [if_neg (by omega), if_pos (by omega)]
  have sn2 : s (2 + 2 * n) = strRow D2 n2 m2 a.vals := by rw [hs]; unfold rcat attrRows rpair; rw [if_neg (by omega), if_neg (by omega)]
  obtain ⟨A2, c2, rfl⟩ := own_shape hv
  have hblk : (s 0).blk = Value.ownBlock (.slice A n c) := by rw [s0]; unfold Row.blk; rw [e3]
  obtain ⟨t, ht⟩ : ∃ t : Row, t = ⟨64, 3, .slice A2 (n + 1) c2, n + 1, (r 0).xs ++ [.string a.name, .slice D1 n1 m1, .slice D2 n2 m2]⟩ := ⟨_, rfl⟩
  have hv' : t.own B w2 := by rw [ht]; exact hv
  have h2 := h1.turn (i := 0) (s := t) (by omega) (by rw [hblk]; exact hg) hv' (by rw [hblk, ht]; exact hnew)
  rw [show 1 + 2 * n + 2 = 1 + 2 * (n + 1) by omega] at h2
  refine ⟨A2, c2, _, rfl, h2, ⟨by simp [hln], by rw [rput_same, ht]; exact ⟨rfl, rfl, rfl, rfl⟩, fun i hi => ?_⟩, ?_⟩
  · rw [rput_same, ht, rput_other _ _ (show 1 + 2 * i ≠ 0 by omega), rput_other _ _ (show 2 + 2 * i ≠ 0 by omega)]
    by_cases e : i = n
    · subst e
      have ea : (ls ++ [a])[i]?.getD default = a := by rw [hln, List.getElem?_append_right (Nat.le_refl _), Nat.sub_self]; rfl
      rw [ea]
      refine ⟨D1, n1, m1, D2, n2, m2, ?_, ?_, ?_, sn1, sn2⟩
      · show ((r 0).xs ++ _)[i * 3]? = _
        rw [List.getElem?_append_right (by omega), hxl, Nat.sub_self]; rfl
      · show ((r 0).xs ++ _)[i * 3 + 1]? = _
        rw [List.getElem?_append_right (by omega), hxl, show i * 3 + 1 - i * 3 = 1 by omega]; rfl
      · show ((r 0).xs ++ _)[i * 3 + 2]? = _
        rw [List.getElem?_append_right (by omega), hxl, show i * 3 + 2 - i * 3 = 2 by omega]; rfl
    · obtain ⟨A1, n1', c1, A2', n2', c2', k0, k1, k2, k3, k4⟩ := h.rows i (by omega)
      have ea : (ls ++ [a])[i]?.getD default = ls[i]?.getD default := by rw [List.getElem?_append_left (by omega)]
      rw [ea]
      refine ⟨A1, n1', c1, A2', n2', c2', ?_, ?_, ?_, by rw [sold _ (by omega)]; exact k3, by rw [sold _ (by omega)]; exact k4⟩
      · show ((r 0).xs ++ _)[i * 3]? = _
        rw [List.getElem?_append_left (by omega)]; exact k0
      · show ((r 0).xs ++ _)[i * 3 + 1]? = _
        rw [List.getElem?_append_left (by omega)]; exact k1
      · show ((r 0).xs ++ _)[i * 3 + 2]? = _
        rw [List.getElem?_append_left (by omega)]; exact k2
  · rintro k ⟨i, hi, e⟩
    by_cases q : i = 0
    · subst q
      rw [rput_same, ht] at e
      rcases hnew k e with k1 | k1
      · exact .inl ⟨0, by omega, by rw [← s0, hblk]; exact k1⟩
      · exact .inr (Nat.le_trans hB2 k1)
    · rw [rput_other _ _ q] at e
      by_cases q2 : i < 1 + 2 * n
      · exact .inl ⟨i, q2, by rw [← sold i q2]; exact e⟩
      · rcases (show i = 1 + 2 * n ∨ i = 2 + 2 * n by omega) with rfl | rfl
        · rw [sn1] at e
          exact .inr ((ho.own 0 (by omega)).lt k e).1
        · rw [sn2] at e
          exact .inr ((ho.own 1 (by omega)).lt k e).1
/-- A schema in the making. -/
structure SchP (B : Nat) (w : World) (A : Option Addr) (n c : Nat) (D : Option Addr) (m k : Nat) (r : Nat → Row) (d : SchemaD) : Prop where
  bag : Bag B (1 + 2 * n) w r
  to : AttrsTo r A n c d.attrs n
  cls : w.ownsRow B 9 1 (.slice D m k) m (d.classes.map Value.string)
  sep : ∀ g, Value.ownBlock (.slice D m k) = some g → ¬ has (1 + 2 * n) r g
  b1 : n ≤ 1048576
  b2 : m ≤ 1048576
  s1 : ∀ a ∈ d.attrs, attrSmall a
  s2 : ∀ s ∈ d.classes, s.size ≤ 1048576
section
variable {B : Nat} {w w' : World} {A D : Option Addr} {n c m k : Nat} {r : Nat → Row} {d : SchemaD}
theorem SchP.only {S : Nat → Prop} (h : SchP B w A n c D m k r d) (ho : Only S w w') (hs : ∀ k, S k → k < B) : SchP B w' A n c D m k r d :=
  ⟨h.bag.only ho fun j hj hS => by have := (h.bag.lt hj).1; have := hs j hS; omega, h.to, own_only h.cls ho fun j hj hS => by have := (h.cls.lt j hj).1; have := hs j hS; omega, h.sep, h.b1, h.b2, h.s1, h.s2⟩
theorem SchP.below (h : SchP B w A n c D m k r d) (hb : Below w.heap.size w w') : SchP B w' A n c D m k r d := ⟨h.bag.below hb, h.to, own_below h.cls hb, h.sep, h.b1, h.b2, h.s1, h.s2⟩
theorem SchP.mono {B' : Nat} (h : SchP B w A n c D m k r d) (hB : B' ≤ B) : SchP B' w A n c D m k r d :=
  ⟨h.bag.mono hB, h.to, (by
    have := (Bag.one (s := strRow D m k d.classes) h.cls).mono hB
    exact this.own 0 (by omega)), h.sep, h.b1, h.b2, h.s1, h.s2⟩
theorem SchP.o (h : SchP B w A n c D m k r d) : SchemaO B w.heap.size w (.slice A n c) (.slice D m k) d := by
  have hbag : Bag B (2 + 2 * n) w (rput r (1 + 2 * n) (strRow D m k d.classes)) := by
    have hap : ∀ i, i < 1 + 2 * n → (strRow D m k d.classes).apart (r i) := by
      intro i hi
      unfold Row.apart
      rcases hb : (strRow D m k d.classes).blk with _ | g
      · exact .inl rfl
      · exact .inr fun e => h.sep g hb ⟨i, hi, e.symm⟩
    refine ⟨fun i hi => ?_, fun i j hi hj hij => ?_⟩
    · by_cases e : i = 1 + 2 * n
      · subst e; rw [rput_same]; exact h.cls
      · rw [rput_other _ _ e]; exact h.bag.own i (by omega)
    · by_cases e : i = 1 + 2 * n
      · subst e
        rw [rput_same, rput_other _ _ (Ne.symm hij)]
        exact hap j (by omega)
      · rw [rput_other _ _ e]
        by_cases e2 : j = 1 + 2 * n
        · subst e2
          rw [rput_same]
          exact (hap i (by omega)).symm
        · rw [rput_other _ _ e2]
          exact h.bag.sep i j (by omega) (by omega) hij
  exact ⟨A, n, c, D, m, k, _, rfl, rfl, hbag, rput_same _ _ _, h.to.congr fun i hi => rput_other _ _ (by omega), h.b1, h.b2, h.s1, h.s2, fun k hk => (hbag.lt hk).2⟩
/-- One attribute more. -/
theorem SchP.attr {B' : Nat} {w2 : World} {D1 D2 : Option Addr} {n1 m1 n2 m2 : Nat} {a : AttrD} {v : Value} (h : SchP B w A n c D m k r d)
    (ho : Bag B' 2 w (attrRows D1 n1 m1 D2 n2 m2 a)) (hB : B ≤ B') (hB2 : B' ≤ w.heap.size) (hlt : ∀ j, has (1 + 2 * n) r j → j < B') (hlt2 : ∀ g, Value.ownBlock (.slice D m k) = some g → g < B')
    (hv : w2.ownsRow B 64 3 v (n + 1) ((r 0).xs ++ [.string a.name, .slice D1 n1 m1, .slice D2 n2 m2])) (hg : w.grownBy w2 (Value.ownBlock (.slice A n c)))
    (hnew : ∀ g, v.ownBlock = some g → Value.ownBlock (.slice A n c) = some g ∨ w.heap.size ≤ g) (hn : n + 1 ≤ 1048576) (hs : attrSmall a) :
    ∃ A2 c2 r', v = .slice A2 (n + 1) c2 ∧ SchP B w2 A2 (n + 1) c2 D m k r' ⟨d.attrs ++ [a], d.classes⟩ ∧ ∀ k, has (1 + 2 * (n + 1)) r' k → has (1 + 2 * n) r k ∨ B' ≤ k := by
  obtain ⟨A2, c2, r', rfl, hb, ht, hh⟩ := h.to.snoc h.bag ho hB hlt hB2 hv hg hnew
  refine ⟨A2, c2, r', rfl, ⟨hb, ht, ?_, fun g hg2 hr => ?_, hn, h.b2, fun x hx => ?_, h.s2⟩, hh⟩
  · refine h.cls.kept hg ?_
    rcases hbk : Value.ownBlock (.slice D m k) with _ | g
    · exact .inl rfl
    · refine .inr fun e => h.sep g hbk ⟨0, by omega, ?_⟩
      unfold Row.blk
      rw [h.to.head.2.2.1]
      exact e.symm
  · rcases hh g hr with h1 | h1
    · exact h.sep g hg2 h1
    · have := hlt2 g hg2
      omega
  · simp only [List.mem_append, List.mem_singleton] at hx
    rcases hx with hx | rfl
    · exact h.s1 x hx
    · exact hs
/-- One class more. -/
theorem SchP.word {w2 : World} {s : ByteArray} {v : Value} (h : SchP B w A n c D m k r d)
    (hv : w2.ownsRow B 9 1 v (m + 1) (d.classes.map Value.string ++ [.string s])) (hg : w.grownBy w2 (Value.ownBlock (.slice D m k)))
    (hnew : ∀ g, v.ownBlock = some g → Value.ownBlock (.slice D m k) = some g ∨ w.heap.size ≤ g) (hm : m + 1 ≤ 1048576) (hs : s.size ≤ 1048576) :
    ∃ D2 k2, v = .slice D2 (m + 1) k2 ∧ SchP B w2 A n c D2 (m + 1) k2 r ⟨d.attrs, d.classes ++ [s]⟩ := by
  obtain ⟨D2, k2, rfl⟩ := own_shape hv
  refine ⟨D2, k2, rfl, ⟨fun i hi => ?_, h.bag.sep⟩, h.to, by simpa using hv, fun g hg2 hr => ?_, h.b1, hm, h.s1, fun x hx => ?_⟩
  · refine (h.bag.own i hi).kept hg ?_
    rcases hbk : (r i).blk with _ | g
    · exact .inl hbk
    · exact .inr fun e => h.sep g (e.symm.trans hbk) ⟨i, hi, hbk⟩
  · rcases hnew g hg2 with h1 | h1
    · exact h.sep g h1 hr
    · have := (h.bag.lt hr).2
      omega
  · simp only [List.mem_append, List.mem_singleton] at hx
    rcases hx with hx | rfl
    · exact h.s2 x hx
    · exact hs
/-- The first class alone. -/
theorem SchP.first (h : SchP B w A n c D m k r d) (hm : 1 ≤ m) : SchP B w A n c D 1 k r ⟨d.attrs, d.classes.take 1⟩ := by
  refine ⟨h.bag, h.to, ?_, fun g hg => h.sep g (by cases D <;> exact hg), h.b1, by omega, h.s1, fun s hs => h.s2 s (List.mem_of_mem_take hs)⟩
  obtain ⟨h1, h2⟩ := h.cls
  have hlen : d.classes.length = m := by simpa using h1
  refine ⟨by simp; omega, ?_⟩
  rcases h2 with ⟨-, h0⟩ | ⟨g, cap, cur, e, hb, hgg, hle, hmx, hsz, htk⟩
  · omega
  · injection e with e1 e2 e3
    subst e1 e3
    refine .inr ⟨g, k, cur, rfl, hb, hgg, by omega, hmx, hsz, ?_⟩
    rw [List.map_take, ← htk, List.take_take]
    congr 1
    omega
/-- No attributes: an empty slice of its own. -/
theorem SchP.none_ (h : SchP B w A n c D m k r d) (hB : B ≤ w.heap.size) :
    SchP B (w.alloc (.cells #[] 64)) (some ⟨w.heap.size, 0, none⟩) 0 0 D m k (fun _ => ⟨64, 3, .slice (some ⟨w.heap.size, 0, none⟩) 0 0, 0, []⟩) ⟨[], d.classes⟩ := by
  have ho := own_empty w B 64 3 hB
  refine ⟨Bag.one (s := ⟨64, 3, .slice (some ⟨w.heap.size, 0, none⟩) 0 0, 0, []⟩) ho, ⟨rfl, ⟨rfl, rfl, rfl, rfl⟩, fun i hi => by omega⟩, h.cls.alloc _, fun g hg hr => ?_, by omega, h.b2, by simp, h.s2⟩
  obtain ⟨i, -, e⟩ := hr
  have e2 : some w.heap.size = some g := e
  injection e2 with e2
  have := (h.cls.lt g hg).2
  omega
end
end Go.Proofs.YtohodehmidbmlaaDoor
namespace Go.Proofs.YtohodehmidbmlaaDoor
open Go.RowKit
set_option maxRecDepth 100000

theorem grown_below {w w' : World} {row : Option Nat} (h : Below w.heap.size w w') : w.grownBy w' row := ⟨h.os, h.tape, h.output, h.size, fun k hk _ => h.block k hk⟩
section
variable {B : Nat} {w w2 : World} {A1 A2 : Option Addr} {n1 c1 n2 c2 : Nat} {a : AttrD}
theorem attr_start (w : World) (B : Nat) (nm : ByteArray) : Bag B 2 w (attrRows none 0 0 none 0 0 ⟨nm, [], []⟩) := by
  refine ⟨fun i hi => ?_, fun i j hi hj hij => ?_⟩
  · rcases (show i = 0 ∨ i = 1 by omega) with rfl | rfl
    · exact World.ownsRow_nil _ _ _ _
    · exact World.ownsRow_nil _ _ _ _
  · rcases (show i = 0 ∨ i = 1 by omega) with rfl | rfl
    · exact .inl rfl
    · exact .inl rfl
theorem rput_cuts (s : Row) (t u : Row) : rput (rpair s t) 0 u = rpair u t := by
  funext j
  unfold rput rpair
  by_cases e : j = 0 <;> simp [e]
theorem attrRows_cong {r : Nat → Row} {N : Nat} {s : Nat → Row} (h : Bag B N w r) (e : ∀ i, i < N → s i = r i) : Bag B N w s := h.congr e
theorem attr_turn1 {A1' : Option Addr} {n1' c1' : Nat} {l : List Int} (h : Bag B 2 w (attrRows A1 n1 c1 A2 n2 c2 a)) (hv : w2.ownsRow B 3 1 (.slice A1' n1' c1') n1' (l.map (Value.int .i64)))
    (hg : w.grownBy w2 (Value.ownBlock (.slice A1 n1 c1))) (hnew : ∀ g, Value.ownBlock (.slice A1' n1' c1') = some g → Value.ownBlock (.slice A1 n1 c1) = some g ∨ w.heap.size ≤ g) (nm : ByteArray) :
    Bag B 2 w2 (attrRows A1' n1' c1' A2 n2 c2 ⟨nm, l, a.vals⟩) :=
  (h.turn (i := 0) (s := intRow A1' n1' c1' l) (by omega) hg hv hnew).congr fun i hi => by
    rcases (show i = 0 ∨ i = 1 by omega) with rfl | rfl
    · rw [rput_same]; rfl
    · rw [rput_other _ _ (by omega)]; rfl
theorem attr_turn2 {A2' : Option Addr} {n2' c2' : Nat} {l : List ByteArray} (h : Bag B 2 w (attrRows A1 n1 c1 A2 n2 c2 a)) (hv : w2.ownsRow B 9 1 (.slice A2' n2' c2') n2' (l.map Value.string))
    (hg : w.grownBy w2 (Value.ownBlock (.slice A2 n2 c2))) (hnew : ∀ g, Value.ownBlock (.slice A2' n2' c2') = some g → Value.ownBlock (.slice A2 n2 c2) = some g ∨ w.heap.size ≤ g) (nm : ByteArray) :
    Bag B 2 w2 (attrRows A1 n1 c1 A2' n2' c2' ⟨nm, a.cuts, l⟩) :=
  (h.turn (i := 1) (s := strRow A2' n2' c2' l) (by omega) hg hv hnew).congr fun i hi => by
    rcases (show i = 0 ∨ i = 1 by omega) with rfl | rfl
    · rw [rput_other _ _ (by omega)]; rfl
    · rw [rput_same]; rfl
/-- One cut more. -/
theorem attr_cut {v : Value} {x : Int} (h : Bag B 2 w (attrRows A1 n1 c1 A2 n2 c2 a)) (hv : w2.ownsRow B 3 1 v (n1 + 1) (a.cuts.map (Value.int .i64) ++ [.int .i64 x]))
    (hg : w.grownBy w2 (Value.ownBlock (.slice A1 n1 c1))) (hnew : ∀ g, v.ownBlock = some g → Value.ownBlock (.slice A1 n1 c1) = some g ∨ w.heap.size ≤ g) :
    ∃ A1' c1', v = .slice A1' (n1 + 1) c1' ∧ Bag B 2 w2 (attrRows A1' (n1 + 1) c1' A2 n2 c2 ⟨a.name, a.cuts ++ [x], a.vals⟩) := by
  obtain ⟨D, m, rfl⟩ := own_shape hv
  exact ⟨D, m, rfl, attr_turn1 h (by simpa using hv) hg hnew _⟩
/-- One value more. -/
theorem attr_val {v : Value} {x : ByteArray} (h : Bag B 2 w (attrRows A1 n1 c1 A2 n2 c2 a)) (hv : w2.ownsRow B 9 1 v (n2 + 1) (a.vals.map Value.string ++ [.string x]))
    (hg : w.grownBy w2 (Value.ownBlock (.slice A2 n2 c2))) (hnew : ∀ g, v.ownBlock = some g → Value.ownBlock (.slice A2 n2 c2) = some g ∨ w.heap.size ≤ g) :
    ∃ A2' c2', v = .slice A2' (n2 + 1) c2' ∧ Bag B 2 w2 (attrRows A1 n1 c1 A2' (n2 + 1) c2' ⟨a.name, a.cuts, a.vals ++ [x]⟩) := by
  obtain ⟨D, m, rfl⟩ := own_shape hv
  exact ⟨D, m, rfl, attr_turn2 h (by simpa using hv) hg hnew _⟩
/-- Cuts, values made anew. -/
theorem attr_cuts_set {B' : Nat} {A1' : Option Addr} {n1' c1' : Nat} {l : List Int} (h : Bag B 2 w (attrRows A1 n1 c1 A2 n2 c2 a)) (hb : Below w.heap.size w w2) (hB : B ≤ B') (hw : w.heap.size ≤ B')
    (hv : w2.ownsRow B' 3 1 (.slice A1' n1' c1') n1' (l.map (Value.int .i64))) (nm : ByteArray) : Bag B 2 w2 (attrRows A1' n1' c1' A2 n2 c2 ⟨nm, l, a.vals⟩) :=
  attr_turn1 h (((Bag.one (s := intRow A1' n1' c1' l) hv).mono hB).own 0 (by omega)) (grown_below hb) (fun g hg => .inr (Nat.le_trans hw (hv.lt g hg).1)) nm
theorem attr_vals_set {B' : Nat} {A2' : Option Addr} {n2' c2' : Nat} {l : List ByteArray} (h : Bag B 2 w (attrRows A1 n1 c1 A2 n2 c2 a)) (hb : Below w.heap.size w w2) (hB : B ≤ B') (hw : w.heap.size ≤ B')
    (hv : w2.ownsRow B' 9 1 (.slice A2' n2' c2') n2' (l.map Value.string)) (nm : ByteArray) : Bag B 2 w2 (attrRows A1 n1 c1 A2' n2' c2' ⟨nm, a.cuts, l⟩) :=
  attr_turn2 h (((Bag.one (s := strRow A2' n2' c2' l) hv).mono hB).own 0 (by omega)) (grown_below hb) (fun g hg => .inr (Nat.le_trans hw (hv.lt g hg).1)) nm
theorem attr_own1 (h : Bag B 2 w (attrRows A1 n1 c1 A2 n2 c2 a)) : w.ownsRow B 3 1 (.slice A1 n1 c1) n1 (a.cuts.map (Value.int .i64)) := h.own 0 (by omega)
theorem attr_own2 (h : Bag B 2 w (attrRows A1 n1 c1 A2 n2 c2 a)) : w.ownsRow B 9 1 (.slice A2 n2 c2) n2 (a.vals.map Value.string) := h.own 1 (by omega)
theorem attr_m (h : Bag B 2 w (attrRows A1 n1 c1 A2 n2 c2 a)) (hs : attrSmall a) : AttrM w A1 n1 c1 A2 n2 c2 a := by
  obtain ⟨q1, q2, q3, q4⟩ := hs
  have o1 := attr_own1 h
  have o2 := attr_own2 h
  have z1 := (ints_of o1).1
  have z2 := (strs_of o2).1
  exact ⟨ints_of o1, strs_of o2, q1, q2, by omega, by omega, own_cap o2⟩
end

/-- A struct of three cells in block b. -/
structure BoxA (w : World) (b : Nat) (x y z : Value) : Prop where
  c0 : w.cell? ⟨b, 0, none⟩ = some x
  c1 : w.cell? ⟨b, 1, none⟩ = some y
  c2 : w.cell? ⟨b, 2, none⟩ = some z
  f0 : w.frozen? ⟨b, 0, none⟩ = false
  f1 : w.frozen? ⟨b, 1, none⟩ = false
  f2 : w.frozen? ⟨b, 2, none⟩ = false
  lt : b < w.heap.size
theorem BoxA.new (w : World) (x y z : Value) (t : TypeId) : BoxA (w.alloc (.cells #[x, y, z] t)) w.heap.size x y z :=
  ⟨by go_simp, by go_simp, by go_simp, by go_simp, by go_simp, by go_simp, by simp⟩
section
variable {w w' : World} {b : Nat} {x y z : Value}
theorem BoxA.only {S : Nat → Prop} (h : BoxA w b x y z) (ho : Only S w w') (hS : ¬ S b) : BoxA w' b x y z := by
  have hk := ho.block b h.lt hS
  have e : ∀ o, w'.cell? ⟨b, o, none⟩ = w.cell? ⟨b, o, none⟩ := fun o => World.cell?_of_block (w := w) (a := ⟨b, o, none⟩) hk
  have f : ∀ o, w'.frozen? ⟨b, o, none⟩ = w.frozen? ⟨b, o, none⟩ := fun o => World.frozen?_of_block (w := w) (a := ⟨b, o, none⟩) hk
  exact ⟨(e 0).trans h.c0, (e 1).trans h.c1, (e 2).trans h.c2, (f 0).trans h.f0, (f 1).trans h.f1, (f 2).trans h.f2, Nat.lt_of_lt_of_le h.lt ho.size⟩
theorem BoxA.keep (h : BoxA w b x y z) (hb : Below w.heap.size w w') : BoxA w' b x y z := h.only (S := fun _ => False) (Only.of_below hb) (fun h => h)
theorem BoxA.low {B : Nat} (h : BoxA w b x y z) (hb : Below B w w') (hB : b < B) : BoxA w' b x y z :=
  h.only (S := fun j => B ≤ j) ⟨hb.os, hb.tape, hb.output, hb.size, fun k _ hk => hb.block k (by omega)⟩ (by omega)
theorem BoxA.set0 (h : BoxA w b x y z) (u : Value) : BoxA (w.setCell ⟨b, 0, none⟩ u) b u y z := by
  obtain ⟨h0, h1, h2, g0, g1, g2, hl⟩ := h
  exact ⟨by go_simp, by go_simp, by go_simp, by go_simp, by go_simp, by go_simp, by simpa using hl⟩
theorem BoxA.set1 (h : BoxA w b x y z) (u : Value) : BoxA (w.setCell ⟨b, 1, none⟩ u) b x u z := by
  obtain ⟨h0, h1, h2, g0, g1, g2, hl⟩ := h
  exact ⟨by go_simp, by go_simp, by go_simp, by go_simp, by go_simp, by go_simp, by simpa using hl⟩
theorem BoxA.set2 (h : BoxA w b x y z) (u : Value) : BoxA (w.setCell ⟨b, 2, none⟩ u) b x y u := by
  obtain ⟨h0, h1, h2, g0, g1, g2, hl⟩ := h
  exact ⟨by go_simp, by go_simp, by go_simp, by go_simp, by go_simp, by go_simp, by simpa using hl⟩
end
/-- A struct of two cells in block b, writable. -/
structure BoxW (w : World) (b : Nat) (x y : Value) : Prop where
  c0 : w.cell? ⟨b, 0, none⟩ = some x
  c1 : w.cell? ⟨b, 1, none⟩ = some y
  f0 : w.frozen? ⟨b, 0, none⟩ = false
  f1 : w.frozen? ⟨b, 1, none⟩ = false
  lt : b < w.heap.size
theorem BoxW.new (w : World) (x y : Value) (t : TypeId) : BoxW (w.alloc (.cells #[x, y] t)) w.heap.size x y :=
  ⟨by go_simp, by go_simp, by go_simp, by go_simp, by simp⟩
section
variable {w w' : World} {b : Nat} {x y : Value}
theorem BoxW.only {S : Nat → Prop} (h : BoxW w b x y) (ho : Only S w w') (hS : ¬ S b) : BoxW w' b x y := by
  have hk := ho.block b h.lt hS
  have e : ∀ o, w'.cell? ⟨b, o, none⟩ = w.cell? ⟨b, o, none⟩ := fun o => World.cell?_of_block (w := w) (a := ⟨b, o, none⟩) hk
  have f : ∀ o, w'.frozen? ⟨b, o, none⟩ = w.frozen? ⟨b, o, none⟩ := fun o => World.frozen?_of_block (w := w) (a := ⟨b, o, none⟩) hk
  exact ⟨(e 0).trans h.c0, (e 1).trans h.c1, (f 0).trans h.f0, (f 1).trans h.f1, Nat.lt_of_lt_of_le h.lt ho.size⟩
theorem BoxW.keep (h : BoxW w b x y) (hb : Below w.heap.size w w') : BoxW w' b x y := h.only (S := fun _ => False) (Only.of_below hb) (fun h => h)
theorem BoxW.low {B : Nat} (h : BoxW w b x y) (hb : Below B w w') (hB : b < B) : BoxW w' b x y :=
  h.only (S := fun j => B ≤ j) ⟨hb.os, hb.tape, hb.output, hb.size, fun k _ hk => hb.block k (by omega)⟩ (by omega)
theorem BoxW.set0 (h : BoxW w b x y) (u : Value) : BoxW (w.setCell ⟨b, 0, none⟩ u) b u y := by
  obtain ⟨h0, h1, g0, g1, hl⟩ := h
  exact ⟨by go_simp, by go_simp, by go_simp, by go_simp, by simpa using hl⟩
theorem BoxW.set1 (h : BoxW w b x y) (u : Value) : BoxW (w.setCell ⟨b, 1, none⟩ u) b x u := by
  obtain ⟨h0, h1, g0, g1, hl⟩ := h
  exact ⟨by go_simp, by go_simp, by go_simp, by go_simp, by simpa using hl⟩
end
end Go.Proofs.YtohodehmidbmlaaDoor
namespace Go.Proofs.YtohodehmidbmlaaDoor
open Go.RowKit

theorem flat_mem_len {b : UInt8} {p : ByteArray} : ∀ {t : List ByteArray}, p ∈ t → p.size ≤ (t.flatMap fun y => b :: y.data.toList).length
  | y :: t, h => by
    rw [List.flatMap_cons, List.length_append, List.length_cons]
    rcases List.mem_cons.1 h with rfl | h
    · have : p.size = p.data.toList.length := rfl
      omega
    · have := flat_mem_len (b := b) h
      omega
theorem joinP_mem_len {b : UInt8} {p : ByteArray} {l : List ByteArray} (h : p ∈ l) : p.size ≤ (joinP b l).length := by
  match l, h with
  | x :: t, h =>
    rw [joinP, List.length_append]
    rcases List.mem_cons.1 h with rfl | h
    · have : p.size = p.data.toList.length := rfl
      omega
    · have := flat_mem_len (b := b) h
      omega
theorem part_le (s : ByteArray) (b : UInt8) : ∀ p ∈ parts s b.toNat, p.size ≤ s.size := by
  intro p hp
  have h := joinP_mem_len (b := b) hp
  rw [← joinP_joinB, joinB_parts] at h
  exact h
theorem three_size (x y : ByteArray) (b : UInt8) : (x ++ ⟨#[b]⟩ ++ y).size = x.size + 1 + y.size := by
  rw [ByteArray.size_append, ByteArray.size_append]; rfl
theorem parts_le2 {y : ByteArray} {b : UInt8} {M : Nat} (h : y.size + 1 ≤ M) : (parts y b.toNat).length ≤ M := Nat.le_trans (parts_len y _) h
theorem vals_small {x y : ByteArray} (h : x.size + 1 + y.size ≤ 1048576) : attrSmall ⟨x, [], parts y 44⟩ :=
  ⟨by simp only; omega, fun s hs => by have := part_le y 44 s hs; omega, by simp, by have := parts_len y 44; simp only; omega⟩
theorem cuts_small {x y : ByteArray} (h : x.size + 1 + y.size ≤ 1048576) : attrSmall ⟨x, numsOf (parts y 44), []⟩ :=
  ⟨by simp only; omega, by simp, by have := parts_len y 44; unfold numsOf; simp only [List.length_map]; omega, by simp⟩
theorem none_small : attrSmall ⟨ByteArray.empty, [], []⟩ := ⟨by decide, by simp, by simp, by simp⟩
theorem numsOf_snoc {l : List ByteArray} {k : Nat} (h : k < l.length) : numsOf (l.take (k + 1)) = numsOf (l.take k) ++ [(rdS (l[k]?.getD ByteArray.empty)).1] := by
  unfold numsOf
  rw [List.take_succ_eq_append_getElem h, List.map_append, List.getElem?_eq_getElem h]; rfl
theorem numsOk_snoc {l : List ByteArray} {k : Nat} (h : k < l.length) (h1 : numsOk (l.take k) = true) (h2 : (rdS (l[k]?.getD ByteArray.empty)).2 = true) : numsOk (l.take (k + 1)) = true := by
  unfold numsOk at *
  rw [List.take_succ_eq_append_getElem h, List.all_append, h1]
  rw [List.getElem?_eq_getElem h, Option.getD_some] at h2
  simp [h2]
theorem numsOk_no {l : List ByteArray} {k : Nat} (h : k < l.length) (h2 : (rdS (l[k]?.getD ByteArray.empty)).2 = false) : numsOk l = false := by
  rw [← Bool.not_eq_true]
  intro h3
  unfold numsOk at h3
  rw [List.all_eq_true] at h3
  rw [List.getElem?_eq_getElem h, Option.getD_some] at h2
  rw [h3 _ (List.getElem_mem h)] at h2
  cases h2
theorem attrsOf_snoc {l : List ByteArray} {k : Nat} (h : k < l.length) : attrsOf (l.take (k + 1)) = attrsOf (l.take k) ++ [(attrOf (l[k]?.getD ByteArray.empty)).getD default] := by
  unfold attrsOf
  rw [List.take_succ_eq_append_getElem h, List.map_append, List.getElem?_eq_getElem h]; rfl
theorem attrsOk_snoc {l : List ByteArray} {k : Nat} (h : k < l.length) (h1 : attrsOk (l.take k) = true) (h2 : (attrOf (l[k]?.getD ByteArray.empty)).isSome = true) : attrsOk (l.take (k + 1)) = true := by
  unfold attrsOk at *
  rw [List.take_succ_eq_append_getElem h, List.all_append, h1]
  rw [List.getElem?_eq_getElem h, Option.getD_some] at h2
  simp [h2]
theorem attrsOk_no {l : List ByteArray} {k : Nat} (h : k < l.length) (h2 : (attrOf (l[k]?.getD ByteArray.empty)).isSome = false) : attrsOk l = false := by
  rw [← Bool.not_eq_true]
  intro h3
  unfold attrsOk at h3
  rw [List.all_eq_true] at h3
  rw [List.getElem?_eq_getElem h, Option.getD_some] at h2
  rw [h3 _ (List.getElem_mem h)] at h2
  cases h2
theorem attrB_small {a : AttrD} (h : attrB a = true) : attrSmall a := by
  have hw := attrB_word h
  have hn : a.name.size ≤ 8 := by
    unfold wordB at hw
    rw [Bool.and_eq_true] at hw
    have := inB_iff.1 hw.1
    omega
  rcases attrB_parts h with ⟨h1, h2, h3, h4⟩ | ⟨h1, h2, h3, h4, h5⟩
  · refine ⟨by omega, fun s hs => ?_, by omega, by omega⟩
    have := (attrB_words h h1 s hs).2
    omega
  · have e : a.vals = [] := List.eq_nil_of_length_eq_zero h1
    exact ⟨by omega, by rw [e]; simp, by omega, by omega⟩
theorem attrsOf_small (l : List ByteArray) : ∀ a ∈ attrsOf l, attrSmall a := by
  intro a ha
  unfold attrsOf at ha
  obtain ⟨s, -, rfl⟩ := List.mem_map.1 ha
  rcases h : attrOf s with _ | a
  · exact none_small
  · exact attrB_small (attrOf_some h).1
end Go.Proofs.YtohodehmidbmlaaDoor
namespace Go.Proofs.YtohodehmidbmlaaDoor
open Go.RowKit
set_option maxRecDepth 100000

/-- An example that owns its bins. -/
def ExO (B H : Nat) (w : World) (x0 x1 : Value) (d : ExD) : Prop := ∃ A n c, x0 = .slice A n c ∧ x1 = .int .i64 d.cls ∧ w.ownsRow B 3 1 (.slice A n c) n (d.bins.map (Value.int .i64)) ∧ n ≤ 1048576 ∧
  (∀ k, Value.ownBlock (.slice A n c) = some k → k < H) ∧ (Lit.int .i64 d.cls).wf = true
theorem ExO.m {B H : Nat} {w : World} {x0 x1 : Value} {d : ExD} (h : ExO B H w x0 x1 d) : ExM w x0 x1 d := by
  obtain ⟨A, n, c, h1, h2, h3, h4, h5, h6⟩ := h
  exact ⟨A, n, c, h1, h2, ints_of h3, h4, h6⟩
theorem ExO.only {S : Nat → Prop} {B H : Nat} {w w' : World} {x0 x1 : Value} {d : ExD} (h : ExO B H w x0 x1 d) (ho : Only S w w') (hs : ∀ k, S k → k < B ∨ H ≤ k) : ExO B H w' x0 x1 d := by
  obtain ⟨A, n, c, h1, h2, h3, h4, h5, h6⟩ := h
  exact ⟨A, n, c, h1, h2, own_only h3 ho (fun k hk hS => by have := (h3.lt k hk).1; have := h5 k hk; have := hs k hS; omega), h4, h5, h6⟩
theorem ExO.below {B H : Nat} {w w' : World} {x0 x1 : Value} {d : ExD} (h : ExO B H w x0 x1 d) (hb : Below w.heap.size w w') : ExO B H w' x0 x1 d := by
  obtain ⟨A, n, c, h1, h2, h3, h4, h5, h6⟩ := h
  exact ⟨A, n, c, h1, h2, own_below h3 hb, h4, h5, h6⟩
theorem ExO.one {B H : Nat} {w : World} {x0 x1 : Value} {d : ExD} (h : ExO B H w x0 x1 d) : x0.oneCell' = true ∧ x1.oneCell' = true := by
  obtain ⟨A, n, c, rfl, rfl, h3⟩ := h
  exact ⟨rfl, rfl⟩
def markExD (k0 : Int) (d : ExD) : ExD := ⟨marksI k0 d.bins.length, d.cls⟩

set_option maxHeartbeats 1000000 in
theorem markEx_any (B H : Nat) (x0 x1 : Value) (d : ExD) (k0 : Int) (w : World) (h : ExO B H w x0 x1 d) (h0 : 0 ≤ k0) (h1 : k0 ≤ 1048576) :
    Calls Tryd.prog 29 #[.agg #[x0, x1], .int .i64 k0] w fun e w' => e = .returned (.int .i64 (k0 + d.bins.length)) ∧ ExO B H w' x0 x1 (markExD k0 d) ∧ Only (fun j => B ≤ j ∧ j < H) w w' := by
  obtain ⟨A, n, c, rfl, rfl, h3, h4, h5, h6⟩ := h
  have hal : Below w.heap.size w (w.alloc (.cells #[.slice A n c, .int .i64 d.cls] 30)) := (Below.refl _ _).alloc (Nat.le_refl _) _
  have hlen := hide (show n = d.bins.length from (ints_of h3).1)
  have HO := hide (own_below h3 hal)
  have hS := hide (show ∀ k, Value.ownBlock (.slice A n c) = some k → B ≤ k ∧ k < H from fun k hk => ⟨(h3.lt k hk).1, h5 k hk⟩)
  have h5' := hide h5
  clear h3 h5
  go_enter Tryd.func29, Tryd.ntmps29
  go_wp2_with (fail)
  refine (markIntS_any B A n c d.bins _ _ HO.out (by omega) (by omega) (by omega)).mono ?_
  rintro e w1 ⟨rfl, ho1, hg1⟩
  have hOn := hide ((Only.of_below (S := fun j => B ≤ j ∧ j < H) hal).trans (Only.of_grown (S := fun j => B ≤ j ∧ j < H) hg1 fun k hk => hS.out k hk))
  have HO1 := hide ho1
  clear ho1 hg1
  go_wp2
  go_ret
  exact ⟨ret_int (by rw [← hlen.out]), ⟨A, n, c, rfl, rfl, by rw [markExD, ← hlen.out]; exact HO1.out, h4, h5'.out, h6⟩, hOn.out⟩

set_option maxHeartbeats 1000000 in
theorem heldEx_any (x0 x1 : Value) (d : ExD) (k0 : Int) (w : World) (h : ExM w x0 x1 (markExD k0 d)) (h0 : 0 ≤ k0) (h1 : k0 ≤ 1048576) :
    Calls Tryd.prog 30 #[.agg #[x0, x1], .int .i64 k0] w fun e w' => e = .returned (.int .i64 (k0 + d.bins.length)) ∧ Below w.heap.size w w' := by
  obtain ⟨A, n, c, rfl, rfl, h3, h4, h6⟩ := h
  have z1 : n = d.bins.length := by have := h3.1; rwa [markExD, marksI_len] at this
  have hal : Below w.heap.size w (w.alloc (.cells #[.slice A n c, .int .i64 d.cls] 30)) := (Below.refl _ _).alloc (Nat.le_refl _) _
  have hc : Ints w A n (marksI k0 n) := by rwa [markExD, ← z1] at h3
  have HC := hide (hc.keep hal)
  have hz := hide z1
  clear h3 hc z1
  go_enter Tryd.func30, Tryd.ntmps30
  go_wp2_with (fail)
  refine (heldIntS_any A n c _ _ HC.out (by omega) (by omega) (by omega)).mono ?_
  rintro e w1 ⟨rfl, rfl⟩
  go_wp2
  go_ret
  exact ⟨ret_int (by rw [← hz.out]), hal⟩
end Go.Proofs.YtohodehmidbmlaaDoor
namespace Go.Proofs.YtohodehmidbmlaaDoor
open Go.RowKit
set_option maxRecDepth 100000

theorem own_lower {w : World} {B B' : Nat} {e : TypeId} {sz n : Nat} {v : Value} {xs : List Value} (h : w.ownsRow B e sz v n xs) (hB : B' ≤ B) : w.ownsRow B' e sz v n xs := by
  obtain ⟨h1, h2⟩ := h
  refine ⟨h1, ?_⟩
  rcases h2 with h2 | ⟨g, cap, cur, e, hb, rest⟩
  · exact .inl h2
  · exact .inr ⟨g, cap, cur, e, Nat.le_trans hB hb, rest⟩
/-- The result's box r, the example's box x, its bins; what lies below w stays but for S, whose blocks are cursors. -/
structure EState (w : World) (S : Nat → Prop) (r x : Nat) (W : World) (G : Option Addr) (n k : Nat) (l : List Int) (cls : Int) : Prop where
  ord : w.heap.size ≤ r ∧ w.heap.size ≤ x ∧ r ≠ x
  low : ∀ j, S j → j < w.heap.size
  res : BoxW W r (.slice none 0 0) (.int .i64 0)
  box : BoxW W x (.slice G n k) (.int .i64 cls)
  own : W.ownsRow w.heap.size 3 1 (.slice G n k) n (l.map (Value.int .i64))
  ap : ∀ j, Value.ownBlock (.slice G n k) = some j → j ≠ x ∧ j ≠ r
  cur : ∀ j, S j → Cur W j
  only : Only S w W
section
variable {w W W2 : World} {S : Nat → Prop} {r x : Nat} {G : Option Addr} {n k : Nat} {l : List Int} {cls : Int}
theorem EState.draw (h : EState w S r x W G n k l cls) (hC : ∀ j, S j → Cur W2 j) (ho : Only S W W2) : EState w S r x W2 G n k l cls := by
  have ho' := h.ord
  exact ⟨h.ord, h.low, h.res.only ho (fun e => by have := h.low _ e; omega), h.box.only ho (fun e => by have := h.low _ e; omega), own_only h.own ho (fun j hj e => by have := h.low _ e; have := (h.own.lt j hj).1; omega), h.ap, hC, h.only.trans ho⟩
theorem EState.keep (h : EState w S r x W G n k l cls) (hb : Below W.heap.size W W2) : EState w S r x W2 G n k l cls :=
  ⟨h.ord, h.low, h.res.keep hb, h.box.keep hb, own_below h.own hb, h.ap, fun j hj => (h.cur j hj).keep hb, h.only.trans (Only.of_below hb)⟩
/-- What stays when the bins' row is written or laid anew. -/
theorem EState.turn {w9 : World} (h : EState w S r x W G n k l cls) (hb : Below w.heap.size W w9) (hg : W.grownBy w9 (Value.ownBlock (.slice G n k))) :
    BoxW w9 r (.slice none 0 0) (.int .i64 0) ∧ BoxW w9 x (.slice G n k) (.int .i64 cls) ∧ Only S w w9 ∧ ∀ j, S j → Cur w9 j := by
  have hs : Only (fun j => Value.ownBlock (.slice G n k) = some j) W w9 := Only.of_grown hg fun k hk => hk
  exact ⟨h.res.only hs (fun e => (h.ap _ e).2 rfl), h.box.only hs (fun e => (h.ap _ e).1 rfl), h.only.low hb, fun j hj => Cur.low (h.cur j hj) (h.low j hj) hb⟩
/-- One bin more. -/
theorem EState.item {w9 : World} {G' : Option Addr} {k' : Nat} {u : Int} (h : EState w S r x W G n k l cls) (hv : w9.ownsRow w.heap.size 3 1 (.slice G' (n + 1) k') (n + 1) (l.map (Value.int .i64) ++ [.int .i64 u])) (hb : Below w.heap.size W w9)
    (hg : W.grownBy w9 (Value.ownBlock (.slice G n k))) (hnew : ∀ g, Value.ownBlock (.slice G' (n + 1) k') = some g → Value.ownBlock (.slice G n k) = some g ∨ W.heap.size ≤ g) :
    EState w S r x (w9.setCell ⟨x, 0, none⟩ (.slice G' (n + 1) k')) G' (n + 1) k' (l ++ [u]) cls := by
  have ho' := h.ord
  have hr := h.res.lt
  have hx := h.box.lt
  obtain ⟨t1, t2, t3, t4⟩ := h.turn hb hg
  have hs := (Only.refl (fun j => x = j) w9).setCell (p := ⟨x, 0, none⟩) rfl (.slice G' (n + 1) k')
  have hlow : Below w.heap.size w9 (w9.setCell ⟨x, 0, none⟩ (.slice G' (n + 1) k')) := (Below.refl _ _).setCell (p := ⟨x, 0, none⟩) ho'.2.1 _
  have hap : ∀ g, Value.ownBlock (.slice G' (n + 1) k') = some g → g ≠ x ∧ g ≠ r := fun g hgg => by
    rcases hnew g hgg with q | q
    · exact h.ap g q
    · omega
  exact ⟨h.ord, h.low, t1.only hs (by show ¬ x = r; omega), t2.set0 _, own_only (by simpa using hv) hs (fun j hj e => (hap j hj).1 e.symm), hap, fun j hj => Cur.low (t4 j hj) (h.low j hj) hlow, t3.low hlow⟩
/-- One bin written. -/
theorem EState.elem {g : Nat} {i : Nat} {u : Int} (h : EState w S r x W G n k l cls) (hG : G = some ⟨g, 0, none⟩) (hst : (W.setCell ⟨g, i, none⟩ (.int .i64 u)).ownsRow w.heap.size 3 1 (.slice G n k) n ((l.set i u).map (Value.int .i64))) :
    EState w S r x (W.setCell ⟨g, i, none⟩ (.int .i64 u)) G n k (l.set i u) cls := by
  have hb : Value.ownBlock (.slice G n k) = some g := by rw [hG]; rfl
  have hgb := (h.own.lt g hb).1
  have hgx := h.ap g hb
  have hs := (Only.refl (fun j => g = j) W).setCell (p := ⟨g, i, none⟩) rfl (.int .i64 u)
  have hlow : Below w.heap.size W (W.setCell ⟨g, i, none⟩ (.int .i64 u)) := (Below.refl _ _).setCell (p := ⟨g, i, none⟩) hgb _
  exact ⟨h.ord, h.low, h.res.only hs hgx.2, h.box.only hs hgx.1, hst, h.ap, fun j hj => Cur.low (h.cur j hj) (h.low j hj) hlow, h.only.low hlow⟩
/-- The class written. -/
theorem EState.setCls (h : EState w S r x W G n k l cls) (u : Int) : EState w S r x (W.setCell ⟨x, 1, none⟩ (.int .i64 u)) G n k l u := by
  have ho' := h.ord
  have hs := (Only.refl (fun j => x = j) W).setCell (p := ⟨x, 1, none⟩) rfl (.int .i64 u)
  have hlow : Below w.heap.size W (W.setCell ⟨x, 1, none⟩ (.int .i64 u)) := (Below.refl _ _).setCell (p := ⟨x, 1, none⟩) ho'.2.1 _
  exact ⟨h.ord, h.low, h.res.only hs (by show ¬ x = r; omega), h.box.set1 _, own_only h.own hs (fun j hj e => (h.ap j hj).1 e.symm), h.ap, fun j hj => Cur.low (h.cur j hj) (h.low j hj) hlow, h.only.low hlow⟩
/-- The result written. -/
theorem EState.fin (h : EState w S r x W G n k l cls) (u0 u1 : Value) : ((W.setCell ⟨r, 0, none⟩ u0).setCell ⟨r, 1, none⟩ u1).ownsRow w.heap.size 3 1 (.slice G n k) n (l.map (Value.int .i64)) ∧
    (∀ j, S j → Cur ((W.setCell ⟨r, 0, none⟩ u0).setCell ⟨r, 1, none⟩ u1) j) ∧ Only S w ((W.setCell ⟨r, 0, none⟩ u0).setCell ⟨r, 1, none⟩ u1) := by
  have hs : Only (fun j => r = j) W ((W.setCell ⟨r, 0, none⟩ u0).setCell ⟨r, 1, none⟩ u1) := ((Only.refl _ W).setCell (p := ⟨r, 0, none⟩) rfl _).setCell (p := ⟨r, 1, none⟩) rfl _
  have hlow : Below w.heap.size W ((W.setCell ⟨r, 0, none⟩ u0).setCell ⟨r, 1, none⟩ u1) := ((Below.refl _ _).setCell (p := ⟨r, 0, none⟩) h.ord.1 _).setCell (p := ⟨r, 1, none⟩) h.ord.1 _
  exact ⟨own_only h.own hs (fun j hj e => (h.ap j hj).2 e.symm), fun j hj => Cur.low (h.cur j hj) (h.low j hj) hlow, h.only.low hlow⟩
end
end Go.Proofs.YtohodehmidbmlaaDoor
namespace Go.Proofs.YtohodehmidbmlaaDoor
open Go.RowKit
set_option maxRecDepth 100000

/-- The boxes of a walk that reads a row. -/
structure RPre (w : World) (s0 s1 : Value) (W0 W : World) : Prop where
  z : W0.heap.size = w.heap.size + 1
  b0 : Below w.heap.size w W0
  arg : BoxW W w.heap.size s0 s1
  res : BoxW W (w.heap.size + 1) (.slice none 0 0) (.int .i64 0)
  below : Below W0.heap.size W0 W
theorem RPre.keep {w W0 W W2 : World} {s0 s1 : Value} (h : RPre w s0 s1 W0 W) (hb : Below W.heap.size W W2) : RPre w s0 s1 W0 W2 :=
  ⟨h.z, h.b0, h.arg.keep hb, h.res.keep hb, bthen h.below hb⟩
theorem RPre.b {w W0 W : World} {s0 s1 : Value} (h : RPre w s0 s1 W0 W) : Below w.heap.size w W := bthen h.b0 h.below
theorem RPre.low {w W0 W : World} {s0 s1 : Value} (h : RPre w s0 s1 W0 W) (u0 u1 : Value) : Below w.heap.size w ((W.setCell ⟨w.heap.size + 1, 0, none⟩ u0).setCell ⟨w.heap.size + 1, 1, none⟩ u1) :=
  (h.b.setCell (p := ⟨w.heap.size + 1, 0, none⟩) (Nat.le_succ _) _).setCell (p := ⟨w.heap.size + 1, 1, none⟩) (Nat.le_succ _) _
theorem rpre_start (w : World) (s0 s1 : Value) (t1 t2 : TypeId) : RPre w s0 s1 (w.alloc (.cells #[s0, s1] t1)) ((w.alloc (.cells #[s0, s1] t1)).alloc (.cells #[.slice none 0 0, .int .i64 0] t2)) := by
  have hal : Below (w.alloc (.cells #[s0, s1] t1)).heap.size (w.alloc (.cells #[s0, s1] t1)) ((w.alloc (.cells #[s0, s1] t1)).alloc (.cells #[.slice none 0 0, .int .i64 0] t2)) := (Below.refl _ _).alloc (Nat.le_refl _) _
  have hz : (w.alloc (.cells #[s0, s1] t1)).heap.size = w.heap.size + 1 := by simp
  have hR := BoxW.new (w.alloc (.cells #[s0, s1] t1)) (.slice none 0 0) (.int .i64 0) t2
  rw [hz] at hR
  exact ⟨hz, (Below.refl _ _).alloc (Nat.le_refl _) _, (BoxW.new w s0 s1 t1).keep hal, hR, hal⟩
theorem estate_first {w W0 W : World} {s0 s1 : Value} (h : RPre w s0 s1 W0 W) (cls : Int) (t : TypeId) : EState W0 (fun _ => False) (w.heap.size + 1) W.heap.size (W.alloc (.cells #[.slice none 0 0, .int .i64 cls] t)) none 0 0 [] cls := by
  have hal : Below W.heap.size W (W.alloc (.cells #[.slice none 0 0, .int .i64 cls] t)) := (Below.refl _ _).alloc (Nat.le_refl _) _
  have h1 := h.res.lt
  have h2 := h.z
  have h3 := h.below.size
  exact ⟨⟨by omega, h3, by omega⟩, fun j hj => hj.elim, h.res.keep hal, BoxW.new _ _ _ _, World.ownsRow_nil _ _ _ _, (fun j hj => by cases hj), fun j hj => hj.elim, Only.of_below (bthen h.below hal)⟩
theorem estate_draw {w W0 W : World} {s0 s1 : Value} (h : RPre w s0 s1 W0 W) {b : Nat} (hC : Cur W0 b) (hb : b < W0.heap.size) (t : TypeId) : EState W0 (· = b) (w.heap.size + 1) W.heap.size (W.alloc (.cells #[.slice none 0 0, .int .i64 0] t)) none 0 0 [] 0 := by
  have hE := estate_first h 0 t
  have hal : Below W.heap.size W (W.alloc (.cells #[.slice none 0 0, .int .i64 0] t)) := (Below.refl _ _).alloc (Nat.le_refl _) _
  have hB := bthen h.below hal
  exact ⟨hE.ord, fun j hj => by subst hj; exact hb, hE.res, hE.box, hE.own, hE.ap, fun j hj => by subst hj; exact hC.keep hB, Only.of_below hB⟩
end Go.Proofs.YtohodehmidbmlaaDoor
namespace Go.Proofs.YtohodehmidbmlaaDoor
open Go.RowKit
set_option maxRecDepth 100000

/-- Bytes as a text. -/
theorem conv_bytes {w : World} {A : Option Addr} {n : Nat} (c : Nat) {l : List UInt8} (h : Bytes w A n l) : (convert 26 9 (.slice A n c)).run Tryd.prog w = .ok (.string ⟨l.toArray⟩) w := by
  have hn := h.1
  rcases A with _ | a
  · have hn0 : n = 0 := by
      rcases Nat.eq_zero_or_pos n with e | e
      · exact e
      · obtain ⟨ad, e1, -⟩ := h.at_ e
        cases e1
    have hl : l = [] := List.eq_nil_of_length_eq_zero (by omega)
    subst hl
    exact run_convert_bytes_nil w 26 5 Tryd.underlying26 Tryd.underlying5 n c 9 Tryd.underlying9
  · have := run_convert_bytes_back (P := Tryd.prog) w 26 9 5 a c l Tryd.underlying26 Tryd.underlying5 Tryd.underlying9 (fun j hj => by
      obtain ⟨ad', e, _, hc'⟩ := h.at_ (k := j) (by omega)
      injection e with e
      subst e
      rw [hc', List.getElem?_eq_getElem hj, Option.getD_some])
    rw [hn]
    exact this
/-- How a reading of a row ends. -/
def RowPost (d : SchemaD) (row : ByteArray) (w : World) (e : Ending) (w' : World) : Prop := ∃ x0 x1, e = .returned (.tuple #[.agg #[x0, x1], .int .i64 (rowOf d row).2.1, .int .i64 (rowOf d row).2.2]) ∧
  ExO w.heap.size w'.heap.size w' x0 x1 (rowOf d row).1 ∧ Below w.heap.size w w'
theorem rowPost_none {d : SchemaD} {row : ByteArray} {w w' : World} {a b : Int} (h : rowOf d row = (exNone, a, b)) (hb : Below w.heap.size w w') :
    RowPost d row w (.returned (.tuple #[.agg #[.slice none 0 0, .int .i64 0], .int .i64 a, .int .i64 b])) w' :=
  ⟨_, _, by rw [h], by rw [h]; exact ⟨none, 0, 0, rfl, rfl, World.ownsRow_nil _ _ _ _, by omega, fun k hk => (by cases hk), by show (Lit.int .i64 0).wf = true; decide⟩, hb⟩
theorem rowPost_some {d : SchemaD} {row : ByteArray} {w w' : World} {G : Option Addr} {n k B : Nat} {l : List Int} {cls : Int} (h : rowOf d row = (⟨l, cls⟩, 0, 0)) (ho : w'.ownsRow B 3 1 (.slice G n k) n (l.map (Value.int .i64))) (hB : w.heap.size ≤ B)
    (hn : n ≤ 1048576) (hc : -1 ≤ cls ∧ cls ≤ 1048576) (hb : Below w.heap.size w w') : RowPost d row w (.returned (.tuple #[.agg #[.slice G n k, .int .i64 cls], .int .i64 0, .int .i64 0])) w' := by
  refine ⟨_, _, by rw [h], ?_, hb⟩
  rw [h]
  refine ⟨G, n, k, rfl, rfl, ((Bag.one (s := intRow G n k l) ho).mono hB).own 0 (by omega), hn, fun j hj => (ho.lt j hj).2, ?_⟩
  simp [Lit.wf, IntKind.min, IntKind.max, IntKind.signed, IntKind.bits]
  omega
theorem rowOk_at {d : SchemaD} {cells : List ByteArray} {i : Nat} : rowOkAt d cells i = (cellP (d.attrs[i]?.getD default) (cells[i]?.getD ByteArray.empty)).2 := rfl
theorem rowOk_snoc {d : SchemaD} {cells : List ByteArray} {k : Nat} (h : (List.range k).all (rowOkAt d cells) = true) (hb : rowOkAt d cells k = true) : (List.range (k + 1)).all (rowOkAt d cells) = true := by
  rw [List.range_succ, List.all_append, h]
  simp [hb]
theorem only_false {w W : World} (h : Only (fun _ => False) w W) : Below w.heap.size w W := Only.below (Below.refl _ _) (Nat.le_refl _) h fun _ hk => hk.elim

/-- A cell that was read. -/
def CellB (a : AttrD) (s : ByteArray) (ok : Bool) (w : World) (e : Ending) (w' : World) : Prop := ∃ x : Int, e = .returned (.tuple #[.int .i64 x, .bool ok]) ∧ (ok = true → x = (cellP a s).1) ∧ Below w.heap.size w w'
theorem l7Cell_read {A1 : Option Addr} {n1 c1 : Nat} {A2 : Option Addr} {n2 c2 : Nat} {a : AttrD} {s : ByteArray} {ok : Bool} (w : World) (h : AttrM w A1 n1 c1 A2 n2 c2 a) (hs : s.size ≤ 1048576) (ho : (cellP a s).2 = ok) :
    Calls Tryd.prog 83 #[.agg #[.string a.name, .slice A1 n1 c1, .slice A2 n2 c2], .string s] w (CellB a s ok w) := by
  have := l7Cell_any A1 n1 c1 A2 n2 c2 a s w h hs
  unfold CellPost at this
  rw [ho] at this
  exact this
theorem cellBin_read {A1 : Option Addr} {n1 c1 : Nat} {A2 : Option Addr} {n2 c2 : Nat} {a : AttrD} {s : ByteArray} {ok : Bool} (w : World) (h : AttrM w A1 n1 c1 A2 n2 c2 a) (hs : s.size ≤ 1048576) (hok : attrB a = true) (hd : DoorW w) (ho : (cellP a s).2 = ok) :
    Calls Tryd.prog 88 #[.agg #[.string a.name, .slice A1 n1 c1, .slice A2 n2 c2], .string s] w (CellB a s ok w) := by
  have := cellBin_any A1 n1 c1 A2 n2 c2 a s w h hs hok hd
  unfold CellPost at this
  rw [ho] at this
  exact this

set_option maxHeartbeats 8000000 in
theorem specRowOf_any (x0 x1 : Value) (d : SchemaD) (Q : Option Addr) (pn pc : Nat) (pl : List UInt8) (w : World) (h : SchemaM w x0 x1 d) (hp : Bytes w Q pn pl) (hpn : pn ≤ 1048576) :
    Calls Tryd.prog 20 #[.agg #[x0, x1], .slice Q pn pc] w (RowPost d ⟨pl.toArray⟩ w) := by
  have HSM := hide h
  obtain ⟨A, n, c, D, m, k, rfl, rfl, hl, hn, hr, hs, hm, hmk⟩ := h
  have hP1 := rpre_start w (.slice A n c) (.slice D m k) 35 30
  obtain ⟨W0, hW0⟩ : ∃ W, W = w.alloc (.cells #[.slice A n c, .slice D m k] 35) := ⟨_, rfl⟩
  rw [← hW0] at hP1
  obtain ⟨W1, hW1⟩ : ∃ W, W = W0.alloc (.cells #[.slice none 0 0, .int .i64 0] 30) := ⟨_, rfl⟩
  rw [← hW1] at hP1
  have HW := hide (show W1 = (w.alloc (.cells #[.slice A n c, .slice D m k] 35)).alloc (.cells #[.slice none 0 0, .int .i64 0] 30) by rw [hW1, hW0])
  obtain ⟨row, hrow⟩ : ∃ row : ByteArray, row = ⟨pl.toArray⟩ := ⟨_, rfl⟩
  have hrz : row.size = pn := by rw [hrow, hp.1]; rfl
  rw [← hrow]
  have HROW := hide hrow
  have HQ := hide hp
  have HL := hide hl
  have HR := hide hr
  have HNA := hide hl.1
  have HNC := hide hr.1
  have HP := hide hP1
  clear hp hl hr hs hP1 hW0 hW1 hrow
  go_enter Tryd.func20, Tryd.ntmps20
  obtain ⟨x0, x1, f0, f1, xl⟩ := HP.out.arg
  rw [HW.out] at x0 x1 f0 f1 xl
  go_wp2_with (fail)
  rw [← HW.out]
  refine (specSchemaOk_any _ _ d _ (HSM.out.keep HP.out.b)).mono ?_
  rintro e w2 ⟨rfl, hb⟩
  replace HP := hide (HP.out.keep hb)
  clear hb x0 x1 f0 f1 xl HW
  cases hsb : schemaB d
  · have HF := hide (rowOf_schema (row := row) hsb)
    clear hsb
    obtain ⟨r0, r1, h0, h1, rl⟩ := HP.out.res
    obtain ⟨x0, x1, f0, f1, xl⟩ := HP.out.arg
    have hlow := hide (HP.out.low (.slice none 0 0) (.int .i64 0))
    go_wp2
    exact bodyPost_ret (v := .tuple #[.agg #[.slice none 0 0, .int .i64 0], .int .i64 1, .int .i64 0]) (by simp [results, Tryd.results20, go_sem, r0, r1]) rfl (rowPost_none HF.out hlow.out)
  have HSB := hide hsb
  by_cases h80 : 80 < pn
  · have HF := hide (rowOf_long (row := row) hsb (by omega))
    have h80' : (80 : Int) < pn := by omega
    clear hsb
    obtain ⟨r0, r1, h0, h1, rl⟩ := HP.out.res
    obtain ⟨x0, x1, f0, f1, xl⟩ := HP.out.arg
    have hlow := hide (HP.out.low (.slice none 0 0) (.int .i64 0))
    go_wp2
    exact bodyPost_ret (v := .tuple #[.agg #[.slice none 0 0, .int .i64 0], .int .i64 2, .int .i64 0]) (by simp [results, Tryd.results20, go_sem, r0, r1]) rfl (rowPost_none HF.out hlow.out)
  have h80' : ¬ (80 : Int) < pn := by omega
  clear hsb
  have hconv := conv_bytes pc (HQ.out.keep HP.out.b)
  rw [← HROW.out] at hconv
  obtain ⟨x0, x1, f0, f1, xl⟩ := HP.out.arg
  go_wp2_with (fail)
  refine (specParts_any row 124 _ (by omega)).mono ?_
  rintro e w2a ⟨D2, n2, m2, rfl, ho2, hn2, hb⟩
  replace HP := hide (HP.out.keep hb)
  have HO2 := hide ho2
  have HN2 := hide hn2
  have HBZ := hide hb.size
  clear hb x0 x1 f0 f1 xl hconv ho2 hn2
  by_cases h2 : (parts row 124).length = 2
  rotate_left
  · have HF := hide (rowOf_bar HSB.out (by omega) h2)
    have hne : ((n2 : Int) == 2) = false := beq_eq_false_iff_ne.2 (by rw [HN2.out]; omega)
    have hne2 : ((n2 : Int) != 2) = true := by rw [bne_iff_ne]; rw [HN2.out]; omega
    obtain ⟨r0, r1, h0, h1, rl⟩ := HP.out.res
    obtain ⟨x0, x1, f0, f1, xl⟩ := HP.out.arg
    have hlow := hide (HP.out.low (.slice none 0 0) (.int .i64 0))
    go_wp2
    exact bodyPost_ret (v := .tuple #[.agg #[.slice none 0 0, .int .i64 0], .int .i64 3, .int .i64 0]) (by simp [results, Tryd.results20, go_sem, r0, r1]) rfl (rowPost_none HF.out hlow.out)
  obtain ⟨x, y, hp, hse, -, -⟩ := parts_pair (s := row) (b := 124) h2
  have hp' : parts row 124 = [x, y] := hp
  have hszz : x.size + 1 + y.size = row.size := by rw [hse, three_size]
  have hn2 : n2 = 2 := by rw [HN2.out, h2]
  subst hn2
  have hown := HO2.out
  unfold OwnS at hown
  rw [hp'] at hown
  have hown2 : w2a.ownsRow w2.heap.size 9 1 (.slice D2 2 m2) 2 [.string x, .string y] := hown
  obtain ⟨g, rfl, hg1, hg2⟩ := own_form hown2 (by omega)
  have hc0 : w2a.cell? ⟨g, 0, none⟩ = some (.string x) := hown2.cellAt 0 (by omega)
  have hc1 : w2a.cell? ⟨g, 1, none⟩ = some (.string y) := hown2.cellAt 1 (by omega)
  have hcy := hide (show ∀ W : World, Below w2a.heap.size w2a W → g < W.heap.size ∧ W.cell? ⟨g, 1, none⟩ = some (.string y) from fun W hb => ⟨Nat.lt_of_lt_of_le hg2 hb.size, (hb.cell (p := ⟨g, 1, none⟩) hg2).trans hc1⟩)
  have HK4 := hide (show ¬ (parts x 44).length = d.attrs.length → rowOf d row = (exNone, 4, 0) from fun h => rowOf_count HSB.out (by omega) h2 (by rw [hp']; exact h))
  have HK5 := hide (show (parts x 44).length = d.attrs.length → rowOf d row = rowCells d (parts x 44) y from fun h => by rw [rowOf_cells HSB.out (by omega) h2 (by rw [hp']; exact h), hp']; rfl)
  clear hp hse hp' hown hown2 h2 HO2 HN2
  obtain ⟨x0, x1, f0, f1, xl⟩ := HP.out.arg
  go_wp2_with (fail)
  refine (specParts_any x 44 _ (by omega)).mono ?_
  rintro e w3 ⟨D3, n3, m3, rfl, ho3, hn3, hb⟩
  replace HP := hide (HP.out.keep hb)
  have HB3 := hide hb
  obtain ⟨L, hL⟩ : ∃ L, L = parts x 44 := ⟨_, rfl⟩
  have hpl := parts_len x 44
  have hsz := hide (show ∀ p ∈ L, p.size ≤ 1048576 from fun p hp => by
    rw [hL] at hp
    have := part_le x 44 p hp
    omega)
  rw [← hL] at ho3 hn3 HK4 HK5 hpl
  clear hL hb x0 x1 f0 f1 xl hc0 hc1 hg1
  by_cases h4 : L.length = d.attrs.length
  rotate_left
  · have HF := hide (HK4.out h4)
    have hne : ((n3 : Int) == n) = false := beq_eq_false_iff_ne.2 (by rw [hn3, HNA.out]; omega)
    have hne2 : ((n3 : Int) != n) = true := by rw [bne_iff_ne]; rw [hn3, HNA.out]; omega
    obtain ⟨r0, r1, h0, h1, rl⟩ := HP.out.res
    obtain ⟨x0, x1, f0, f1, xl⟩ := HP.out.arg
    have hlow := hide (HP.out.low (.slice none 0 0) (.int .i64 0))
    go_wp2
    exact bodyPost_ret (v := .tuple #[.agg #[.slice none 0 0, .int .i64 0], .int .i64 4, .int .i64 0]) (by simp [results, Tryd.results20, go_sem, r0, r1]) rfl (rowPost_none HF.out hlow.out)
  have hnn : n3 = n := by rw [hn3, HNA.out, h4]
  subst hnn
  have HK := hide (HK5.out h4)
  have HNL := hide hn3
  unfold OwnS at ho3
  rw [← hn3] at ho3
  have HLS := hide (strs_of ho3)
  have hn5 : n3 ≤ 5 := by have := (schemaB_parts HSB.out).1.2; omega
  have hm3 : m ≤ 3 := by have := (schemaB_parts HSB.out).2.1.2; have := HNC.out; omega
  have HE := hide (estate_first HP.out 0 30)
  have HP4 := hide (HP.out.keep ((Below.refl _ _).alloc (Nat.le_refl _) (.cells #[.slice none 0 0, .int .i64 0] 30)))
  obtain ⟨x0, x1, f0, f1, xl⟩ := HP.out.arg
  obtain ⟨x0', x1', f0', f1', xl'⟩ := HP4.out.arg
  clear hn3 ho3 HK4 HK5 h4
  go_wp2
  clear x0 x1 f0 f1 xl x0' x1' f0' f1' xl' HP4
  go_loopw [10] (fun i W => ∃ K : Nat, K ≤ n3 ∧ i = .int .i64 K ∧ (∃ G c9, EState W0 (fun _ => False) (w.heap.size + 1) w3.heap.size W G K c9 (rowBins d L K) 0 ∧ Hid (∀ j, Value.ownBlock (.slice G K c9) = some j → w3.heap.size ≤ j)) ∧ Hid ((List.range K).all (rowOkAt d L) = true) ∧ Hid (Only (fun j => w3.heap.size ≤ j) w3 W)) (fun i _ => n3 - (intOf i).toNat)
  case atStart => exact ⟨0, Nat.zero_le _, rfl, ⟨none, 0, HE.out, fun j e => by cases e⟩, rfl, Only.of_below ((Below.refl _ _).alloc (Nat.le_refl _) _)⟩
  case round =>
    clear HE
    obtain ⟨K, hk, rfl, ⟨G, c9, hS, hown⟩, hok, hon⟩ := hrel
    have HS := hide hS
    clear hS
    have hb3 := hide (show Below w3.heap.size w3 wr from Only.below (Below.refl _ _) (Nat.le_refl _) hon.out fun k hk => hk)
    obtain ⟨x0, x1, f0, f1, xl⟩ := HP.out.arg.keep hb3.out
    by_cases hlt : K < n3
    · obtain ⟨ad, rfl, hadb, hcell⟩ := (HLS.out.keep hb3.out).at_ hlt
      obtain ⟨au, A1, n1, c1, A2, n2, c2, rfl, hbk, g0, g1, g2, hI⟩ := (HL.out.keep (bthen HP.out.b hb3.out)).at_ hlt
      have hkl := hide (show K < L.length by have := HNL.out; omega)
      have hz := hsz.out (L[K]?.getD ByteArray.empty) (by rw [List.getElem?_eq_getElem hkl.out, Option.getD_some]; exact List.getElem_mem hkl.out)
      obtain ⟨p, hp⟩ : ∃ p, p = L[K]?.getD ByteArray.empty := ⟨_, rfl⟩
      obtain ⟨a, ha⟩ : ∃ a, a = d.attrs[K]?.getD default := ⟨_, rfl⟩
      rw [← hp] at hcell hz
      rw [← ha] at g0 hI
      have hro := rowOk_at (d := d) (cells := L) (i := K)
      have hst := rowBins_snoc d L K
      rw [← hp, ← ha] at hro hst
      have HI := hide hI
      obtain ⟨ok, ho⟩ : ∃ ok, (cellP a p).2 = ok := ⟨_, rfl⟩
      rw [ho] at hro
      have HO := hide ho
      have HRO := hide hro
      have HST := hide hst
      clear ho hro hst hI ha hp
      have HSD := hide (HS.out.keep ((Below.refl _ _).drew))
      have HID := hide (HI.out.keep ((Below.refl _ _).drew))
      have hi0 : (0 : Int) ≤ K := by omega
      have hi1 : (K : Int) < n3 := by omega
      go_wp2
      go_region_law (first
        | (go_simp; go_at_call 83; refine (l7Cell_read _ HID.out hz HO.out).mono ?_; rintro e w5 ⟨u, rfl, hu, hb⟩))
      all_goals
        have HS6 := hide (HSD.out.keep hb)
        replace hon := hide (hon.out.trans (Only.of_below (bthen ((Below.refl _ _).drew) hb)))
        clear hb x0 x1 f0 f1 xl HS g0 g1 g2 hbk hcell hadb HI HID HSD
        cases ok
        · have HF := hide (HK.out.trans (rowCells_bad hkl.out hok.out HRO.out))
          clear hu
          obtain ⟨r0, r1, h0, h1, rl⟩ := HS6.out.res
          obtain ⟨e0, e1, k0, k1, el⟩ := HS6.out.box
          have hfin := hide (HS6.out.fin (.slice none 0 0) (.int .i64 0))
          go_wp2
          exact bodyPost_ret (v := .tuple #[.agg #[.slice none 0 0, .int .i64 0], .int .i64 5, .int .i64 K]) (by simp [results, Tryd.results20, go_sem, r0, r1]) rfl (rowPost_none HF.out (bthen HP.out.b0 (only_false hfin.out.2.2)))
        · have hok2 := hide (rowOk_snoc hok.out HRO.out)
          have hval := hide (show rowBins d L K ++ [u] = rowBins d L (K + 1) by rw [HST.out, hu rfl])
          have HSZ := hide (show W0.heap.size ≤ w5.heap.size from HS6.out.only.size)
          clear hu
          obtain ⟨e0, e1, k0, k1, el⟩ := HS6.out.box
          go_wp2_with (at_builtin; go_must (refine wpList_append_one w5 rfl _ _ 28 rfl W0.heap.size 3 (.int .i64 0) 1 8 Tryd.underlying28 infoI rfl (by decide) _ K _ [.int .i64 u] rfl HS6.out.own _ rfl rfl (by simp [Value.oneCell']) rfl (by unfold maxLen; omega) (by omega) HSZ.out ?_); intro v' w9 hown9 hb9 hn9 hg9; obtain ⟨D9, m9, rfl⟩ := own_shape hown9; obtain ⟨y0, y1, q0, q1, yl⟩ := (HS6.out.turn hb9 hg9).2.1)
          have HS9 := hide (HS6.out.item (G' := D9) (k' := m9) hown9 hb9 hg9 hn9)
          rw [hval.out] at HS9
          have hbk := hide (show ∀ j, Value.ownBlock (.slice D9 (K + 1) m9) = some j → w3.heap.size ≤ j from fun j hj => by
            rcases hn9 j hj with q | q
            · exact hown.out j q
            · have := hon.out.size; omega)
          have hon2 := hide ((hon.out.trans (Only.of_grown hg9 fun k hk => hown.out k hk)).setCell (p := ⟨w3.heap.size, 0, none⟩) (Nat.le_refl _) (.slice D9 (K + 1) m9))
          clear hown9 hb9 hg9 hn9 e0 e1 k0 k1 el y0 y1 q0 q1 yl HS6
          go_wp2
          exact ⟨⟨K + 1, by omega, by go_num, ⟨D9, m9, HS9.out, hbk⟩, hok2, hon2⟩, by simp [intOf]; omega⟩
    · obtain rfl : K = n3 := by omega
      have hall := hok.out
      rw [HNL.out] at hall
      obtain ⟨cx, hcx⟩ : ∃ cx, cx = clsP d y := ⟨_, rfl⟩
      have hcb := idxI_bd (fun z => decide (y = z)) d.classes
      have hcx' : cx = idxI (fun z => decide (y = z)) d.classes := hcx
      rw [← hcx', ← HNC.out] at hcb
      have HK6 := hide (show cx < 0 → ¬ y = quest → rowOf d row = (exNone, 6, 0) from fun h1 h2 => HK.out.trans (rowCells_cls hall (by rw [← hcx]; exact h1) h2))
      have HK0 := hide (show ¬ (cx < 0 ∧ ¬ y = quest) → rowOf d row = (⟨rowBins d L K, cx⟩, 0, 0) from fun h1 => HK.out.trans (by rw [rowCells_ok hall (by rw [← hcx]; exact h1), ← HNL.out, ← hcx]))
      have HCX := hide hcx'
      have HCQ := hide (show y = quest → cx = -1 from fun e => by rw [hcx, e]; exact clsP_q HSB.out)
      clear hcx hcx' hall
      obtain ⟨hyl, hyc⟩ := hcy.out wr (bthen HB3.out hb3.out)
      obtain ⟨e0, e1, k0, k1, el⟩ := HS.out.box
      have HRr := hide (HR.out.keep (bthen HP.out.b hb3.out))
      have hi1 : (1 : Int) < 2 := by omega
      have HRD := hide (HRr.out.keep ((Below.refl _ _).drew))
      go_wp2
      go_region_law (first
        | (go_simp; go_at_call 84; refine (l7Place_any D m k d.classes y _ HRD.out (by omega)).mono ?_; rintro e w5 ⟨rfl, rfl⟩; rw [← HCX.out]))
      all_goals
        have HS9 := hide (HS.out.setCls cx)
        have hyc2 : (wr.setCell ⟨w3.heap.size, 1, none⟩ (.int .i64 cx)).cell? ⟨g, 1, none⟩ = some (.string y) := (hcy.out _ ((bthen HB3.out hb3.out).setCell (p := ⟨w3.heap.size, 1, none⟩) HB3.out.size _)).2
        clear e0 e1 k0 k1 el
        by_cases hneg : cx < 0
        · by_cases hq : y = quest
          · have HF := hide (HK0.out (fun h => h.2 hq))
            have hb : (y.toList == [63]) = true := q_yes hq
            clear hq
            obtain ⟨r0, r1, h0, h1, rl⟩ := HS9.out.res
            obtain ⟨e0, e1, k0, k1, el⟩ := HS9.out.box
            have hfin := hide (HS9.out.fin (.slice G K c9) (.int .i64 cx))
            go_wp2
            exact bodyPost_ret (v := .tuple #[.agg #[.slice G K c9, .int .i64 cx], .int .i64 0, .int .i64 0]) (by simp [results, Tryd.results20, go_sem, r0, r1]) rfl (rowPost_some HF.out (own_below hfin.out.1 (Below.refl _ _).drew) (by have := HP.out.z; omega) (by omega) (by omega) (bthen HP.out.b0 (only_false hfin.out.2.2.drew)))
          · have HF := hide (HK6.out hneg hq)
            have hb : (y.toList == [63]) = false := q_no hq
            clear hq
            obtain ⟨r0, r1, h0, h1, rl⟩ := HS9.out.res
            obtain ⟨e0, e1, k0, k1, el⟩ := HS9.out.box
            have hfin := hide (HS9.out.fin (.slice none 0 0) (.int .i64 0))
            go_wp2
            exact bodyPost_ret (v := .tuple #[.agg #[.slice none 0 0, .int .i64 0], .int .i64 6, .int .i64 0]) (by simp [results, Tryd.results20, go_sem, r0, r1]) rfl (rowPost_none HF.out (bthen HP.out.b0 (only_false hfin.out.2.2.drew)))
        · have HF := hide (HK0.out (fun h => hneg h.1))
          obtain ⟨r0, r1, h0, h1, rl⟩ := HS9.out.res
          obtain ⟨e0, e1, k0, k1, el⟩ := HS9.out.box
          have hfin := hide (HS9.out.fin (.slice G K c9) (.int .i64 cx))
          go_wp2
          exact bodyPost_ret (v := .tuple #[.agg #[.slice G K c9, .int .i64 cx], .int .i64 0, .int .i64 0]) (by simp [results, Tryd.results20, go_sem, r0, r1]) rfl (rowPost_some HF.out (own_below hfin.out.1 (Below.refl _ _).drew) (by have := HP.out.z; omega) (by omega) (by omega) (bthen HP.out.b0 (only_false hfin.out.2.2.drew)))
end Go.Proofs.YtohodehmidbmlaaDoor
namespace Go.Proofs.YtohodehmidbmlaaDoor
open Go.RowKit
set_option maxRecDepth 100000

set_option maxHeartbeats 8000000 in
theorem implRowOf_any (x0 x1 : Value) (d : SchemaD) (Q : Option Addr) (pn pc : Nat) (pl : List UInt8) (w : World) (h : SchemaM w x0 x1 d) (hp : Bytes w Q pn pl) (hpn : pn ≤ 1048576) (hd : DoorW w) :
    Calls Tryd.prog 23 #[.agg #[x0, x1], .slice Q pn pc] w (RowPost d ⟨pl.toArray⟩ w) := by
  have HD := hide hd
  clear hd
  have HSM := hide h
  obtain ⟨A, n, c, D, m, k, rfl, rfl, hl, hn, hr, hs, hm, hmk⟩ := h
  have hP1 := rpre_start w (.slice A n c) (.slice D m k) 35 30
  obtain ⟨W0, hW0⟩ : ∃ W, W = w.alloc (.cells #[.slice A n c, .slice D m k] 35) := ⟨_, rfl⟩
  rw [← hW0] at hP1
  obtain ⟨W1, hW1⟩ : ∃ W, W = W0.alloc (.cells #[.slice none 0 0, .int .i64 0] 30) := ⟨_, rfl⟩
  rw [← hW1] at hP1
  have HW := hide (show W1 = (w.alloc (.cells #[.slice A n c, .slice D m k] 35)).alloc (.cells #[.slice none 0 0, .int .i64 0] 30) by rw [hW1, hW0])
  obtain ⟨row, hrow⟩ : ∃ row : ByteArray, row = ⟨pl.toArray⟩ := ⟨_, rfl⟩
  have hrz : row.size = pn := by rw [hrow, hp.1]; rfl
  rw [← hrow]
  have HROW := hide hrow
  have HQ := hide hp
  have HL := hide hl
  have HR := hide hr
  have HNA := hide hl.1
  have HNC := hide hr.1
  have HP := hide hP1
  clear hp hl hr hs hP1 hW0 hW1 hrow
  go_enter Tryd.func23, Tryd.ntmps23
  obtain ⟨x0, x1, f0, f1, xl⟩ := HP.out.arg
  rw [HW.out] at x0 x1 f0 f1 xl
  go_wp2_with (fail)
  rw [← HW.out]
  refine (implSchemaOk_any _ _ d _ (HSM.out.keep HP.out.b)).mono ?_
  rintro e w2 ⟨rfl, hb⟩
  replace HP := hide (HP.out.keep hb)
  clear hb x0 x1 f0 f1 xl HW
  cases hsb : schemaB d
  · have HF := hide (rowOf_schema (row := row) hsb)
    clear hsb
    obtain ⟨r0, r1, h0, h1, rl⟩ := HP.out.res
    obtain ⟨x0, x1, f0, f1, xl⟩ := HP.out.arg
    have hlow := hide (HP.out.low (.slice none 0 0) (.int .i64 0))
    go_wp2
    exact bodyPost_ret (v := .tuple #[.agg #[.slice none 0 0, .int .i64 0], .int .i64 1, .int .i64 0]) (by simp [results, Tryd.results23, go_sem, r0, r1]) rfl (rowPost_none HF.out hlow.out)
  have HSB := hide hsb
  by_cases h80 : 80 < pn
  · have HF := hide (rowOf_long (row := row) hsb (by omega))
    have h80' : (80 : Int) < pn := by omega
    clear hsb
    obtain ⟨r0, r1, h0, h1, rl⟩ := HP.out.res
    obtain ⟨x0, x1, f0, f1, xl⟩ := HP.out.arg
    have hlow := hide (HP.out.low (.slice none 0 0) (.int .i64 0))
    go_wp2
    exact bodyPost_ret (v := .tuple #[.agg #[.slice none 0 0, .int .i64 0], .int .i64 2, .int .i64 0]) (by simp [results, Tryd.results23, go_sem, r0, r1]) rfl (rowPost_none HF.out hlow.out)
  have h80' : ¬ (80 : Int) < pn := by omega
  clear hsb
  have hconv := conv_bytes pc (HQ.out.keep HP.out.b)
  rw [← HROW.out] at hconv
  obtain ⟨x0, x1, f0, f1, xl⟩ := HP.out.arg
  go_wp2_with (fail)
  refine (implParts_any row 124 _ (by omega)).mono ?_
  rintro e w2a ⟨D2, n2, m2, rfl, ho2, hn2, hb⟩
  replace HP := hide (HP.out.keep hb)
  have HO2 := hide ho2
  have HN2 := hide hn2
  have HBZ := hide hb.size
  clear hb x0 x1 f0 f1 xl hconv ho2 hn2
  by_cases h2 : (parts row 124).length = 2
  rotate_left
  · have HF := hide (rowOf_bar HSB.out (by omega) h2)
    have hne : ((n2 : Int) == 2) = false := beq_eq_false_iff_ne.2 (by rw [HN2.out]; omega)
    have hne2 : ((n2 : Int) != 2) = true := by rw [bne_iff_ne]; rw [HN2.out]; omega
    obtain ⟨r0, r1, h0, h1, rl⟩ := HP.out.res
    obtain ⟨x0, x1, f0, f1, xl⟩ := HP.out.arg
    have hlow := hide (HP.out.low (.slice none 0 0) (.int .i64 0))
    go_wp2
    exact bodyPost_ret (v := .tuple #[.agg #[.slice none 0 0, .int .i64 0], .int .i64 3, .int .i64 0]) (by simp [results, Tryd.results23, go_sem, r0, r1]) rfl (rowPost_none HF.out hlow.out)
  obtain ⟨x, y, hp, hse, -, -⟩ := parts_pair (s := row) (b := 124) h2
  have hp' : parts row 124 = [x, y] := hp
  have hszz : x.size + 1 + y.size = row.size := by rw [hse, three_size]
  have hn2 : n2 = 2 := by rw [HN2.out, h2]
  subst hn2
  have hown := HO2.out
  unfold OwnS at hown
  rw [hp'] at hown
  have hown2 : w2a.ownsRow w2.heap.size 9 1 (.slice D2 2 m2) 2 [.string x, .string y] := hown
  obtain ⟨g, rfl, hg1, hg2⟩ := own_form hown2 (by omega)
  have hc0 : w2a.cell? ⟨g, 0, none⟩ = some (.string x) := hown2.cellAt 0 (by omega)
  have hc1 : w2a.cell? ⟨g, 1, none⟩ = some (.string y) := hown2.cellAt 1 (by omega)
  have hcy := hide (show ∀ W : World, Below w2a.heap.size w2a W → g < W.heap.size ∧ W.cell? ⟨g, 1, none⟩ = some (.string y) from fun W hb => ⟨Nat.lt_of_lt_of_le hg2 hb.size, (hb.cell (p := ⟨g, 1, none⟩) hg2).trans hc1⟩)
  have HK4 := hide (show ¬ (parts x 44).length = d.attrs.length → rowOf d row = (exNone, 4, 0) from fun h => rowOf_count HSB.out (by omega) h2 (by rw [hp']; exact h))
  have HK5 := hide (show (parts x 44).length = d.attrs.length → rowOf d row = rowCells d (parts x 44) y from fun h => by rw [rowOf_cells HSB.out (by omega) h2 (by rw [hp']; exact h), hp']; rfl)
  clear hp hse hp' hown hown2 h2 HO2 HN2
  obtain ⟨x0, x1, f0, f1, xl⟩ := HP.out.arg
  go_wp2_with (fail)
  refine (implParts_any x 44 _ (by omega)).mono ?_
  rintro e w3 ⟨D3, n3, m3, rfl, ho3, hn3, hb⟩
  replace HP := hide (HP.out.keep hb)
  have HB3 := hide hb
  obtain ⟨L, hL⟩ : ∃ L, L = parts x 44 := ⟨_, rfl⟩
  have hpl := parts_len x 44
  have hsz := hide (show ∀ p ∈ L, p.size ≤ 1048576 from fun p hp => by
    rw [hL] at hp
    have := part_le x 44 p hp
    omega)
  rw [← hL] at ho3 hn3 HK4 HK5 hpl
  clear hL hb x0 x1 f0 f1 xl hc0 hc1 hg1
  by_cases h4 : L.length = d.attrs.length
  rotate_left
  · have HF := hide (HK4.out h4)
    have hne : ((n3 : Int) == n) = false := beq_eq_false_iff_ne.2 (by rw [hn3, HNA.out]; omega)
    have hne2 : ((n3 : Int) != n) = true := by rw [bne_iff_ne]; rw [hn3, HNA.out]; omega
    obtain ⟨r0, r1, h0, h1, rl⟩ := HP.out.res
    obtain ⟨x0, x1, f0, f1, xl⟩ := HP.out.arg
    have hlow := hide (HP.out.low (.slice none 0 0) (.int .i64 0))
    go_wp2
    exact bodyPost_ret (v := .tuple #[.agg #[.slice none 0 0, .int .i64 0], .int .i64 4, .int .i64 0]) (by simp [results, Tryd.results23, go_sem, r0, r1]) rfl (rowPost_none HF.out hlow.out)
  have hnn : n3 = n := by rw [hn3, HNA.out, h4]
  subst hnn
  have HK := hide (HK5.out h4)
  have HNL := hide hn3
  unfold OwnS at ho3
  rw [← hn3] at ho3
  have HLS := hide (strs_of ho3)
  have hn5 : n3 ≤ 5 := by have := (schemaB_parts HSB.out).1.2; omega
  have hm3 : m ≤ 3 := by have := (schemaB_parts HSB.out).2.1.2; have := HNC.out; omega
  have HE := hide (estate_first HP.out (-1) 30)
  have HP4 := hide (HP.out.keep ((Below.refl _ _).alloc (Nat.le_refl _) (.cells #[.slice none 0 0, .int .i64 (-1)] 30)))
  obtain ⟨x0, x1, f0, f1, xl⟩ := HP.out.arg
  obtain ⟨x0', x1', f0', f1', xl'⟩ := HP4.out.arg
  clear hn3 ho3 HK4 HK5 h4
  go_wp2
  clear x0 x1 f0 f1 xl x0' x1' f0' f1' xl' HP4
  go_loopw [43] (fun i W => ∃ K : Nat, K ≤ n3 ∧ i = .int .i64 K ∧ (∃ G c9, EState W0 (fun _ => False) (w.heap.size + 1) w3.heap.size W G K c9 (rowBins d L K) (-1) ∧ Hid (∀ j, Value.ownBlock (.slice G K c9) = some j → w3.heap.size ≤ j)) ∧ Hid ((List.range K).all (rowOkAt d L) = true) ∧ Hid (Only (fun j => w3.heap.size ≤ j) w3 W)) (fun i _ => n3 - (intOf i).toNat)
  case atStart => exact ⟨0, Nat.zero_le _, rfl, ⟨none, 0, HE.out, fun j e => by cases e⟩, rfl, Only.of_below ((Below.refl _ _).alloc (Nat.le_refl _) _)⟩
  case round =>
    clear HE
    obtain ⟨K, hk, rfl, ⟨G, c9, hS, hown⟩, hok, hon⟩ := hrel
    have HS := hide hS
    clear hS
    have hb3 := hide (show Below w3.heap.size w3 wr from Only.below (Below.refl _ _) (Nat.le_refl _) hon.out fun k hk => hk)
    obtain ⟨x0, x1, f0, f1, xl⟩ := HP.out.arg.keep hb3.out
    by_cases hlt : K < n3
    · obtain ⟨ad, rfl, hadb, hcell⟩ := (HLS.out.keep hb3.out).at_ hlt
      obtain ⟨au, A1, n1, c1, A2, n2, c2, rfl, hbk, g0, g1, g2, hI⟩ := (HL.out.keep (bthen HP.out.b hb3.out)).at_ hlt
      have hkl := hide (show K < L.length by have := HNL.out; omega)
      have hz := hsz.out (L[K]?.getD ByteArray.empty) (by rw [List.getElem?_eq_getElem hkl.out, Option.getD_some]; exact List.getElem_mem hkl.out)
      obtain ⟨p, hp⟩ : ∃ p, p = L[K]?.getD ByteArray.empty := ⟨_, rfl⟩
      obtain ⟨a, ha⟩ : ∃ a, a = d.attrs[K]?.getD default := ⟨_, rfl⟩
      rw [← hp] at hcell hz
      rw [← ha] at g0 hI
      have hoka := hide (show attrB a = true by rw [ha]; exact attr_at HSB.out (by have := HNA.out; omega))
      have hro := rowOk_at (d := d) (cells := L) (i := K)
      have hst := rowBins_snoc d L K
      rw [← hp, ← ha] at hro hst
      have HI := hide hI
      obtain ⟨ok, ho⟩ : ∃ ok, (cellP a p).2 = ok := ⟨_, rfl⟩
      rw [ho] at hro
      have HO := hide ho
      have HRO := hide hro
      have HST := hide hst
      clear ho hro hst hI ha hp
      go_wp2_with (fail)
      refine (cellBin_read _ HI.out hz hoka.out (HD.out.keep (bthen HP.out.b hb3.out)) HO.out).mono ?_
      rintro e w5 ⟨u, rfl, hu, hb⟩
      have HS6 := hide (HS.out.keep hb)
      replace hon := hide (hon.out.trans (Only.of_below hb))
      clear hb x0 x1 f0 f1 xl HS g0 g1 g2 hbk hcell hadb HI
      cases ok
      · have HF := hide (HK.out.trans (rowCells_bad hkl.out hok.out HRO.out))
        clear hu
        obtain ⟨r0, r1, h0, h1, rl⟩ := HS6.out.res
        obtain ⟨e0, e1, k0, k1, el⟩ := HS6.out.box
        have hfin := hide (HS6.out.fin (.slice none 0 0) (.int .i64 0))
        go_wp2
        exact bodyPost_ret (v := .tuple #[.agg #[.slice none 0 0, .int .i64 0], .int .i64 5, .int .i64 K]) (by simp [results, Tryd.results23, go_sem, r0, r1]) rfl (rowPost_none HF.out (bthen HP.out.b0 (only_false hfin.out.2.2)))
      · have hok2 := hide (rowOk_snoc hok.out HRO.out)
        have hval := hide (show rowBins d L K ++ [u] = rowBins d L (K + 1) by rw [HST.out, hu rfl])
        have HSZ := hide (show W0.heap.size ≤ w5.heap.size from HS6.out.only.size)
        clear hu
        obtain ⟨e0, e1, k0, k1, el⟩ := HS6.out.box
        go_wp2_with (at_builtin; go_must (refine wpList_append_one w5 rfl _ _ 28 rfl W0.heap.size 3 (.int .i64 0) 1 8 Tryd.underlying28 infoI rfl (by decide) _ K _ [.int .i64 u] rfl HS6.out.own _ rfl rfl (by simp [Value.oneCell']) rfl (by unfold maxLen; omega) (by omega) HSZ.out ?_); intro v' w9 hown9 hb9 hn9 hg9; obtain ⟨D9, m9, rfl⟩ := own_shape hown9; obtain ⟨y0, y1, q0, q1, yl⟩ := (HS6.out.turn hb9 hg9).2.1)
        have HS9 := hide (HS6.out.item (G' := D9) (k' := m9) hown9 hb9 hg9 hn9)
        rw [hval.out] at HS9
        have hbk := hide (show ∀ j, Value.ownBlock (.slice D9 (K + 1) m9) = some j → w3.heap.size ≤ j from fun j hj => by
          rcases hn9 j hj with q | q
          · exact hown.out j q
          · have := hon.out.size; omega)
        have hon2 := hide ((hon.out.trans (Only.of_grown hg9 fun k hk => hown.out k hk)).setCell (p := ⟨w3.heap.size, 0, none⟩) (Nat.le_refl _) (.slice D9 (K + 1) m9))
        clear hown9 hb9 hg9 hn9 e0 e1 k0 k1 el y0 y1 q0 q1 yl HS6
        go_wp2
        go_roundw
        case rel => exact ⟨K + 1, by omega, by go_num, ⟨D9, m9, HS9.out, hbk⟩, hok2, hon2⟩
        case measure => simp [intOf]; omega
    · obtain rfl : K = n3 := by omega
      have hall := hok.out
      rw [HNL.out] at hall
      obtain ⟨cx, hcx⟩ : ∃ cx, cx = clsP d y := ⟨_, rfl⟩
      have hcb := idxI_bd (fun z => decide (y = z)) d.classes
      have hcx' : cx = idxI (fun z => decide (y = z)) d.classes := hcx
      rw [← hcx', ← HNC.out] at hcb
      have HK6 := hide (show cx < 0 → ¬ y = quest → rowOf d row = (exNone, 6, 0) from fun h1 h2 => HK.out.trans (rowCells_cls hall (by rw [← hcx]; exact h1) h2))
      have HK0 := hide (show ¬ (cx < 0 ∧ ¬ y = quest) → rowOf d row = (⟨rowBins d L K, cx⟩, 0, 0) from fun h1 => HK.out.trans (by rw [rowCells_ok hall (by rw [← hcx]; exact h1), ← HNL.out, ← hcx]))
      have HCX := hide hcx'
      have HCQ := hide (show y = quest → cx = -1 from fun e => by rw [hcx, e]; exact clsP_q HSB.out)
      clear hcx hcx' hall
      obtain ⟨hyl, hyc⟩ := hcy.out wr (bthen HB3.out hb3.out)
      obtain ⟨e0, e1, k0, k1, el⟩ := HS.out.box
      have HRr := hide (HR.out.keep (bthen HP.out.b hb3.out))
      by_cases hq : y = quest
      · have HF := hide (HK0.out (fun h => h.2 hq))
        have hcq := HCQ.out hq
        subst hcq
        have hb : (y.toList == [63]) = true := q_yes hq
        clear hq e0 e1 k0 k1 el
        obtain ⟨r0, r1, h0, h1, rl⟩ := HS.out.res
        obtain ⟨e0, e1, k0, k1, el⟩ := HS.out.box
        have hfin := hide (HS.out.fin (.slice G K c9) (.int .i64 (-1)))
        go_wp2
        exact bodyPost_ret (v := .tuple #[.agg #[.slice G K c9, .int .i64 (-1)], .int .i64 0, .int .i64 0]) (by simp [results, Tryd.results23, go_sem, r0, r1]) rfl (rowPost_some HF.out hfin.out.1 (by have := HP.out.z; omega) (by omega) (by omega) (bthen HP.out.b0 (only_false hfin.out.2.2)))
      · have HQ2 := hide hq
        have hb : (y.toList == [63]) = false := q_no hq
        clear hq
        have hi1 : (1 : Int) < 2 := by omega
        have HRD := hide (HRr.out.keep ((Below.refl _ _).drew))
        go_wp2
        go_region_law (first
          | (go_simp; go_at_call 89; refine (indexStr_any D m k d.classes y _ HRD.out (by omega)).mono ?_; rintro e w5 ⟨rfl, rfl⟩; rw [← HCX.out]))
        all_goals
          have HS9 := hide (HS.out.setCls cx)
          clear e0 e1 k0 k1 el
          by_cases hneg : cx < 0
          · have HF := hide (HK6.out hneg HQ2.out)
            obtain ⟨r0, r1, h0, h1, rl⟩ := HS9.out.res
            obtain ⟨e0, e1, k0, k1, el⟩ := HS9.out.box
            have hfin := hide (HS9.out.fin (.slice none 0 0) (.int .i64 0))
            go_wp2
            exact bodyPost_ret (v := .tuple #[.agg #[.slice none 0 0, .int .i64 0], .int .i64 6, .int .i64 0]) (by simp [results, Tryd.results23, go_sem, r0, r1]) rfl (rowPost_none HF.out (bthen HP.out.b0 (only_false hfin.out.2.2.drew)))
          · have HF := hide (HK0.out (fun h => hneg h.1))
            obtain ⟨r0, r1, h0, h1, rl⟩ := HS9.out.res
            obtain ⟨e0, e1, k0, k1, el⟩ := HS9.out.box
            have hfin := hide (HS9.out.fin (.slice G K c9) (.int .i64 cx))
            go_wp2
            exact bodyPost_ret (v := .tuple #[.agg #[.slice G K c9, .int .i64 cx], .int .i64 0, .int .i64 0]) (by simp [results, Tryd.results23, go_sem, r0, r1]) rfl (rowPost_some HF.out (own_below hfin.out.1 (Below.refl _ _).drew) (by have := HP.out.z; omega) (by omega) (by omega) (bthen HP.out.b0 (only_false hfin.out.2.2.drew)))
end Go.Proofs.YtohodehmidbmlaaDoor
namespace Go.Proofs.YtohodehmidbmlaaDoor
open Go.RowKit
set_option maxRecDepth 100000

/-- A literal list of strings, of numbers. -/
theorem strs_lit (W : World) (l : List ByteArray) (t : TypeId) : Strs (W.alloc (.cells (l.map Value.string).toArray t)) (some ⟨W.heap.size, 0, none⟩) l.length l := by
  refine ⟨rfl, fun h => ⟨_, rfl, by simp, fun i hi => ⟨[.string l[i]], rfl, rfl, fun j u hu => ?_⟩⟩⟩
  rcases j with _ | j
  · simp only [List.getElem?_cons_zero, Option.some.injEq] at hu
    subst hu
    have e : (⟨W.heap.size, 0, none⟩ : Addr).add (i * 1 + 0) = ⟨W.heap.size, i, none⟩ := by unfold Addr.add; split <;> simp_all
    rw [e, cell_of_row _ W.heap.size i (l.map Value.string).toArray t (0, 0) (heap_alloc_new W _)]
    simp [hi]
  · simp at hu
theorem ints_lit (W : World) (l : List Int) (t : TypeId) : Ints (W.alloc (.cells (l.map (Value.int .i64)).toArray t)) (some ⟨W.heap.size, 0, none⟩) l.length l := by
  refine ⟨rfl, fun h => ⟨_, rfl, by simp, fun i hi => ⟨[.int .i64 l[i]], rfl, rfl, fun j u hu => ?_⟩⟩⟩
  rcases j with _ | j
  · simp only [List.getElem?_cons_zero, Option.some.injEq] at hu
    subst hu
    have e : (⟨W.heap.size, 0, none⟩ : Addr).add (i * 1 + 0) = ⟨W.heap.size, i, none⟩ := by unfold Addr.add; split <;> simp_all
    rw [e, cell_of_row _ W.heap.size i (l.map (Value.int .i64)).toArray t (0, 0) (heap_alloc_new W _)]
    simp [hi]
  · simp at hu
theorem lit_apart {W : World} {b : Nat} (h : Cur W b) : ∀ a, some (⟨W.heap.size, 0, none⟩ : Addr) = some a → a.block ≠ b := by
  intro a e
  obtain ⟨_, _, _, _, _, _, _, _, _, _, _, hlt, _⟩ := h
  obtain rfl := Option.some.inj e
  show W.heap.size ≠ b
  omega

def partsL : List ByteArray := [⟨#[]⟩, ⟨#[97]⟩, ⟨#[97, 44, 98]⟩, ⟨#[44]⟩, ⟨#[97, 44, 44, 98, 44]⟩, ⟨#[97, 47, 98, 44, 99, 47]⟩]
theorem partsL_size : ∀ k, k < 6 → (partsL[k]?.getD ByteArray.empty).size ≤ 6 := by decide

end Go.Proofs.YtohodehmidbmlaaDoor
namespace Go.Proofs.YtohodehmidbmlaaDoor
open Go.RowKit
set_option maxRecDepth 100000

theorem lit_cell (W : World) (l : List Value) (t : TypeId) (k : Nat) {v : Value} (h : l[k]? = some v) : (W.alloc (.cells l.toArray t)).cell? ((⟨W.heap.size, 0, none⟩ : Addr).add k) = some v := by
  have e : (⟨W.heap.size, 0, none⟩ : Addr).add k = ⟨W.heap.size, k, none⟩ := by unfold Addr.add; split <;> simp_all
  rw [e, cell_of_row _ W.heap.size k l.toArray t (0, 0) (heap_alloc_new W _)]
  simpa using h
theorem new_cells {W : World} {g : Nat} (h : W.heap.size = g) (us : List Value) (e : TypeId) : ∀ j v, us[j]? = some v → ∃ a, some (⟨g, 0, none⟩ : Addr) = some a ∧ (W.alloc (.cells us.toArray e)).cell? (a.add j) = some v := by
  subst h
  intro j v hj
  exact ⟨_, rfl, lit_cell W us e j hj⟩
theorem own_lit {B : Nat} {e : TypeId} (w : World) (l : List Value) (hb : B ≤ w.heap.size) (hl : l.length ≤ 100) : (w.alloc (.cells l.toArray e)).ownsRow B e 1 (.slice (some ⟨w.heap.size, 0, none⟩) l.length l.length) l.length l := by
  refine ⟨by simp, .inr ⟨w.heap.size, l.length, l.toArray, rfl, hb, heap_alloc_new w _, Nat.le_refl _, by unfold maxLen; omega, by simp, ?_⟩⟩
  simp
theorem only_set {w : World} {p : Addr} (u : Value) : Only (fun j => p.block = j) w (w.setCell p u) := (Only.refl _ w).setCell rfl _
/-- The result's box r, the attribute's box x, its rows, the cursor b. -/
structure AState (w : World) (b r x : Nat) (W : World) (A1 : Option Addr) (n1 c1 : Nat) (A2 : Option Addr) (n2 c2 : Nat) (a : AttrD) : Prop where
  ord : b < w.heap.size ∧ w.heap.size ≤ r ∧ w.heap.size ≤ x ∧ r ≠ x
  res : BoxA W r (.string ⟨#[]⟩) (.slice none 0 0) (.slice none 0 0)
  box : BoxA W x (.string a.name) (.slice A1 n1 c1) (.slice A2 n2 c2)
  bag : Bag w.heap.size 2 W (attrRows A1 n1 c1 A2 n2 c2 a)
  ap1 : ∀ k, Value.ownBlock (.slice A1 n1 c1) = some k → k ≠ x ∧ k ≠ r
  ap2 : ∀ k, Value.ownBlock (.slice A2 n2 c2) = some k → k ≠ x ∧ k ≠ r
  cur : Cur W b
  only : Only (· = b) w W
section
variable {w W W2 : World} {b r x : Nat} {A1 A2 : Option Addr} {n1 c1 n2 c2 : Nat} {a : AttrD}
theorem AState.draw (h : AState w b r x W A1 n1 c1 A2 n2 c2 a) (hC : Cur W2 b) (ho : Only (· = b) W W2) : AState w b r x W2 A1 n1 c1 A2 n2 c2 a := by
  have ho' := h.ord
  exact ⟨h.ord, h.res.only ho (by omega), h.box.only ho (by omega), h.bag.only ho (fun k hk e => by have := (h.bag.lt hk).1; omega), h.ap1, h.ap2, hC, h.only.trans ho⟩
theorem AState.keep (h : AState w b r x W A1 n1 c1 A2 n2 c2 a) (hb : Below W.heap.size W W2) : AState w b r x W2 A1 n1 c1 A2 n2 c2 a :=
  ⟨h.ord, h.res.keep hb, h.box.keep hb, h.bag.below hb, h.ap1, h.ap2, h.cur.keep hb, h.only.trans (Only.of_below hb)⟩
theorem AState.hasne (h : AState w b r x W A1 n1 c1 A2 n2 c2 a) {k : Nat} (hk : has 2 (attrRows A1 n1 c1 A2 n2 c2 a) k) : k ≠ x ∧ k ≠ r := by
  obtain ⟨i, hi, e⟩ := hk
  rcases (show i = 0 ∨ i = 1 by omega) with rfl | rfl
  · exact h.ap1 k e
  · exact h.ap2 k e
theorem AState.set0 (h : AState w b r x W A1 n1 c1 A2 n2 c2 a) (nm : ByteArray) : AState w b r x (W.setCell ⟨x, 0, none⟩ (.string nm)) A1 n1 c1 A2 n2 c2 ⟨nm, a.cuts, a.vals⟩ := by
  have ho' := h.ord
  have hs := only_set (w := W) (p := ⟨x, 0, none⟩) (.string nm)
  exact ⟨h.ord, h.res.only hs (by show ¬ x = r; omega), h.box.set0 _, h.bag.only hs (fun k hk e => (h.hasne hk).1 (Eq.symm e)), h.ap1, h.ap2,
    Cur.low h.cur h.ord.1 ((Below.refl _ _).setCell (p := ⟨x, 0, none⟩) h.ord.2.2.1 _), h.only.low ((Below.refl _ _).setCell (p := ⟨x, 0, none⟩) h.ord.2.2.1 _)⟩
/-- What stays when the cuts', the values' row is written or laid anew. -/
def AKept (w : World) (b r x : Nat) (w9 : World) (A1 : Option Addr) (n1 c1 : Nat) (A2 : Option Addr) (n2 c2 : Nat) (a : AttrD) : Prop :=
  BoxA w9 r (.string ⟨#[]⟩) (.slice none 0 0) (.slice none 0 0) ∧ BoxA w9 x (.string a.name) (.slice A1 n1 c1) (.slice A2 n2 c2) ∧ Cur w9 b ∧ Only (· = b) w w9
theorem AState.turn1 {w9 : World} (h : AState w b r x W A1 n1 c1 A2 n2 c2 a) (hb : Below w.heap.size W w9) (hg : W.grownBy w9 (Value.ownBlock (.slice A1 n1 c1))) : AKept w b r x w9 A1 n1 c1 A2 n2 c2 a := by
  have hs : Only (fun j => Value.ownBlock (.slice A1 n1 c1) = some j) W w9 := Only.of_grown hg fun k hk => hk
  exact ⟨h.res.only hs (fun e => (h.ap1 _ e).2 rfl), h.box.only hs (fun e => (h.ap1 _ e).1 rfl), Cur.low h.cur h.ord.1 hb, h.only.low hb⟩
theorem AState.turn2 {w9 : World} (h : AState w b r x W A1 n1 c1 A2 n2 c2 a) (hb : Below w.heap.size W w9) (hg : W.grownBy w9 (Value.ownBlock (.slice A2 n2 c2))) : AKept w b r x w9 A1 n1 c1 A2 n2 c2 a := by
  have hs : Only (fun j => Value.ownBlock (.slice A2 n2 c2) = some j) W w9 := Only.of_grown hg fun k hk => hk
  exact ⟨h.res.only hs (fun e => (h.ap2 _ e).2 rfl), h.box.only hs (fun e => (h.ap2 _ e).1 rfl), Cur.low h.cur h.ord.1 hb, h.only.low hb⟩
theorem AState.put1 {w9 : World} {A1' : Option Addr} {n1' c1' : Nat} {l : List Int} (h0 : AState w b r x W A1 n1 c1 A2 n2 c2 a) (h : AKept w b r x w9 A1 n1 c1 A2 n2 c2 a)
    (hB : Bag w.heap.size 2 w9 (attrRows A1' n1' c1' A2 n2 c2 ⟨a.name, l, a.vals⟩)) (hap : ∀ k, Value.ownBlock (.slice A1' n1' c1') = some k → Value.ownBlock (.slice A1 n1 c1) = some k ∨ W.heap.size ≤ k) :
    AState w b r x (w9.setCell ⟨x, 1, none⟩ (.slice A1' n1' c1')) A1' n1' c1' A2 n2 c2 ⟨a.name, l, a.vals⟩ := by
  have ho' := h0.ord
  have hs := only_set (w := w9) (p := ⟨x, 1, none⟩) (.slice A1' n1' c1')
  have hlow : Below w.heap.size w9 (w9.setCell ⟨x, 1, none⟩ (.slice A1' n1' c1')) := (Below.refl _ _).setCell (p := ⟨x, 1, none⟩) ho'.2.2.1 _
  have ha1 : ∀ k, Value.ownBlock (.slice A1' n1' c1') = some k → k ≠ x ∧ k ≠ r := fun k hk => by
    rcases hap k hk with q | q
    · exact h0.ap1 k q
    · have := h0.box.lt; have := h0.res.lt; omega
  have hhas : ∀ k, has 2 (attrRows A1' n1' c1' A2 n2 c2 ⟨a.name, l, a.vals⟩) k → k ≠ x ∧ k ≠ r := by
    rintro k ⟨i, hi, e⟩
    rcases (show i = 0 ∨ i = 1 by omega) with rfl | rfl
    · exact ha1 k e
    · exact h0.ap2 k e
  exact ⟨ho', h.1.only hs (by show ¬ x = r; omega), h.2.1.set1 _, hB.only hs (fun k hk e => (hhas k hk).1 (Eq.symm e)), ha1, h0.ap2, Cur.low h.2.2.1 ho'.1 hlow, h.2.2.2.low hlow⟩
theorem AState.put2 {w9 : World} {A2' : Option Addr} {n2' c2' : Nat} {l : List ByteArray} (h0 : AState w b r x W A1 n1 c1 A2 n2 c2 a) (h : AKept w b r x w9 A1 n1 c1 A2 n2 c2 a)
    (hB : Bag w.heap.size 2 w9 (attrRows A1 n1 c1 A2' n2' c2' ⟨a.name, a.cuts, l⟩)) (hap : ∀ k, Value.ownBlock (.slice A2' n2' c2') = some k → Value.ownBlock (.slice A2 n2 c2) = some k ∨ W.heap.size ≤ k) :
    AState w b r x (w9.setCell ⟨x, 2, none⟩ (.slice A2' n2' c2')) A1 n1 c1 A2' n2' c2' ⟨a.name, a.cuts, l⟩ := by
  have ho' := h0.ord
  have hs := only_set (w := w9) (p := ⟨x, 2, none⟩) (.slice A2' n2' c2')
  have hlow : Below w.heap.size w9 (w9.setCell ⟨x, 2, none⟩ (.slice A2' n2' c2')) := (Below.refl _ _).setCell (p := ⟨x, 2, none⟩) ho'.2.2.1 _
  have ha2 : ∀ k, Value.ownBlock (.slice A2' n2' c2') = some k → k ≠ x ∧ k ≠ r := fun k hk => by
    rcases hap k hk with q | q
    · exact h0.ap2 k q
    · have := h0.box.lt; have := h0.res.lt; omega
  have hhas : ∀ k, has 2 (attrRows A1 n1 c1 A2' n2' c2' ⟨a.name, a.cuts, l⟩) k → k ≠ x ∧ k ≠ r := by
    rintro k ⟨i, hi, e⟩
    rcases (show i = 0 ∨ i = 1 by omega) with rfl | rfl
    · exact h0.ap1 k e
    · exact ha2 k e
  exact ⟨ho', h.1.only hs (by show ¬ x = r; omega), h.2.1.set2 _, hB.only hs (fun k hk e => (hhas k hk).1 (Eq.symm e)), h0.ap1, ha2, Cur.low h.2.2.1 ho'.1 hlow, h.2.2.2.low hlow⟩
/-- One cut more, one value more. -/
theorem AState.cut {w9 : World} {v : Value} {u : Int} (h : AState w b r x W A1 n1 c1 A2 n2 c2 a) (hv : w9.ownsRow w.heap.size 3 1 v (n1 + 1) (a.cuts.map (Value.int .i64) ++ [.int .i64 u])) (hb : Below w.heap.size W w9)
    (hg : W.grownBy w9 (Value.ownBlock (.slice A1 n1 c1))) (hnew : ∀ g, v.ownBlock = some g → Value.ownBlock (.slice A1 n1 c1) = some g ∨ W.heap.size ≤ g) :
    ∃ A1' c1', v = .slice A1' (n1 + 1) c1' ∧ AState w b r x (w9.setCell ⟨x, 1, none⟩ v) A1' (n1 + 1) c1' A2 n2 c2 ⟨a.name, a.cuts ++ [u], a.vals⟩ := by
  obtain ⟨A', c', rfl, hB⟩ := attr_cut h.bag hv hg hnew
  exact ⟨A', c', rfl, AState.put1 h (h.turn1 hb hg) hB hnew⟩
theorem AState.val {w9 : World} {v : Value} {u : ByteArray} (h : AState w b r x W A1 n1 c1 A2 n2 c2 a) (hv : w9.ownsRow w.heap.size 9 1 v (n2 + 1) (a.vals.map Value.string ++ [.string u])) (hb : Below w.heap.size W w9)
    (hg : W.grownBy w9 (Value.ownBlock (.slice A2 n2 c2))) (hnew : ∀ g, v.ownBlock = some g → Value.ownBlock (.slice A2 n2 c2) = some g ∨ W.heap.size ≤ g) :
    ∃ A2' c2', v = .slice A2' (n2 + 1) c2' ∧ AState w b r x (w9.setCell ⟨x, 2, none⟩ v) A1 n1 c1 A2' (n2 + 1) c2' ⟨a.name, a.cuts, a.vals ++ [u]⟩ := by
  obtain ⟨A', c', rfl, hB⟩ := attr_val h.bag hv hg hnew
  exact ⟨A', c', rfl, AState.put2 h (h.turn2 hb hg) hB hnew⟩
/-- Cuts, values from a literal. -/
theorem AState.cuts_lit (h : AState w b r x W A1 n1 c1 A2 n2 c2 a) (l : List Int) (hl : l.length ≤ 100) :
    AState w b r x ((W.alloc (.cells (l.map (Value.int .i64)).toArray 3)).setCell ⟨x, 1, none⟩ (.slice (some ⟨W.heap.size, 0, none⟩) l.length l.length)) (some ⟨W.heap.size, 0, none⟩) l.length l.length A2 n2 c2 ⟨a.name, l, a.vals⟩ := by
  have hal : Below W.heap.size W (W.alloc (.cells (l.map (Value.int .i64)).toArray 3)) := (Below.refl _ _).alloc (Nat.le_refl _) _
  have hk := h.keep hal
  have ho := own_lit (B := W.heap.size) (e := 3) W (l.map (Value.int .i64)) (Nat.le_refl _) (by simpa using hl)
  simp only [List.length_map] at ho
  exact AState.put1 h ⟨hk.res, hk.box, hk.cur, hk.only⟩ (attr_cuts_set h.bag hal h.only.size (Nat.le_refl _) ho a.name) (fun k hk => .inr (ho.lt k hk).1)
theorem AState.vals_lit (h : AState w b r x W A1 n1 c1 A2 n2 c2 a) (l : List ByteArray) (hl : l.length ≤ 100) :
    AState w b r x ((W.alloc (.cells (l.map Value.string).toArray 9)).setCell ⟨x, 2, none⟩ (.slice (some ⟨W.heap.size, 0, none⟩) l.length l.length)) A1 n1 c1 (some ⟨W.heap.size, 0, none⟩) l.length l.length ⟨a.name, a.cuts, l⟩ := by
  have hal : Below W.heap.size W (W.alloc (.cells (l.map Value.string).toArray 9)) := (Below.refl _ _).alloc (Nat.le_refl _) _
  have hk := h.keep hal
  have ho := own_lit (B := W.heap.size) (e := 9) W (l.map Value.string) (Nat.le_refl _) (by simpa using hl)
  simp only [List.length_map] at ho
  exact AState.put2 h ⟨hk.res, hk.box, hk.cur, hk.only⟩ (attr_vals_set h.bag hal h.only.size (Nat.le_refl _) ho a.name) (fun k hk => .inr (ho.lt k hk).1)
theorem AState.vals_lit' {g : Nat} (h : AState w b r x W A1 n1 c1 A2 n2 c2 a) (hg : W.heap.size = g) (l : List ByteArray) (hl : l.length ≤ 100) :
    AState w b r x ((W.alloc (.cells (l.map Value.string).toArray 9)).setCell ⟨x, 2, none⟩ (.slice (some ⟨g, 0, none⟩) l.length l.length)) A1 n1 c1 (some ⟨g, 0, none⟩) l.length l.length ⟨a.name, a.cuts, l⟩ := by
  subst hg
  exact h.vals_lit l hl
/-- The result written. -/
theorem AState.fin (h : AState w b r x W A1 n1 c1 A2 n2 c2 a) (u0 u1 u2 : Value) : Bag w.heap.size 2 (((W.setCell ⟨r, 0, none⟩ u0).setCell ⟨r, 1, none⟩ u1).setCell ⟨r, 2, none⟩ u2) (attrRows A1 n1 c1 A2 n2 c2 a) ∧
    Cur (((W.setCell ⟨r, 0, none⟩ u0).setCell ⟨r, 1, none⟩ u1).setCell ⟨r, 2, none⟩ u2) b ∧ Only (· = b) w (((W.setCell ⟨r, 0, none⟩ u0).setCell ⟨r, 1, none⟩ u1).setCell ⟨r, 2, none⟩ u2) := by
  have hs : Only (fun j => r = j) W (((W.setCell ⟨r, 0, none⟩ u0).setCell ⟨r, 1, none⟩ u1).setCell ⟨r, 2, none⟩ u2) :=
    (((Only.refl _ W).setCell (p := ⟨r, 0, none⟩) rfl _).setCell (p := ⟨r, 1, none⟩) rfl _).setCell (p := ⟨r, 2, none⟩) rfl _
  have hlow : Below w.heap.size W (((W.setCell ⟨r, 0, none⟩ u0).setCell ⟨r, 1, none⟩ u1).setCell ⟨r, 2, none⟩ u2) :=
    (((Below.refl _ _).setCell (p := ⟨r, 0, none⟩) h.ord.2.1 _).setCell (p := ⟨r, 1, none⟩) h.ord.2.1 _).setCell (p := ⟨r, 2, none⟩) h.ord.2.1 _
  exact ⟨h.bag.only hs (fun k hk e => (h.hasne hk).2 (Eq.symm e)), Cur.low h.cur h.ord.1 hlow, h.only.low hlow⟩
theorem AState.lens (h : AState w b r x W A1 n1 c1 A2 n2 c2 a) : n1 = a.cuts.length ∧ n2 = a.vals.length := ⟨(ints_of (attr_own1 h.bag)).1, (strs_of (attr_own2 h.bag)).1⟩
end
end Go.Proofs.YtohodehmidbmlaaDoor
namespace Go.Proofs.YtohodehmidbmlaaDoor
open Go.RowKit
set_option maxRecDepth 100000
set_option linter.unusedSimpArgs false

theorem SchemaM.rows {w : World} {A D : Option Addr} {n c m k : Nat} {d : SchemaD} (h : SchemaM w (.slice A n c) (.slice D m k) d) : AttrsM w A n d.attrs ∧ Strs w D m d.classes := by
  obtain ⟨A', n', c', D', m', k', e1, e2, h1, -, h2, -⟩ := h
  injection e1 with a1 a2 a3
  injection e2 with b1 b2 b3
  subst a1 a2 a3 b1 b2 b3
  exact ⟨h1, h2⟩
/-- Bins and a class as they are drawn. -/
def drawnE (l : List Int) (cls : Int) : Prop := (∀ u ∈ l, -1 ≤ u ∧ u ≤ 1048576) ∧ 0 ≤ cls ∧ cls ≤ 1048576
theorem bins_more {l : List Int} {u : Int} (h : ∀ x ∈ l, -1 ≤ x ∧ x ≤ 1048576) (hu : -1 ≤ u ∧ u ≤ 1048576) : ∀ x ∈ l ++ [u], -1 ≤ x ∧ x ≤ 1048576 := by
  intro x hx
  rcases List.mem_append.1 hx with e | e
  · exact h x e
  · simp at e
    subst e
    exact hu
theorem cls_wf {x : Int} (h : -9223372036854775808 ≤ x ∧ x ≤ 9223372036854775807) : (Lit.int .i64 x).wf = true := by
  simp [Lit.wf, IntKind.min, IntKind.max, IntKind.signed, IntKind.bits]
  omega


set_option maxHeartbeats 8000000 in
theorem l7Right_any (b : Nat) (x0 x1 : Value) (d : SchemaD) (B : Nat) (w : World) (h : Cur w b) (hs : SchemaO B w.heap.size w x0 x1 d) (hB : b < B) :
    Calls Tryd.prog 148 #[.pointer (some ⟨b, 0, none⟩), .agg #[x0, x1]] w fun e w' => ∃ G n c cls, e = .returned (.agg #[.slice G n c, .int .i64 cls]) ∧
      (∃ l, w'.ownsRow w.heap.size 3 1 (.slice G n c) n (l.map (Value.int .i64)) ∧ drawnE l cls) ∧ (n ≤ 1048576 ∧ n ≤ d.attrs.length) ∧ Cur w' b ∧ Only (· = b) w w' := by
  have HSO := hide hs
  have hbw := h.lt
  obtain ⟨A, n, c, D, m, k, rfl, rfl, hl, hn, -, -, hm, hmk⟩ := hs.m
  have HNL := hide (show n ≤ d.attrs.length from Nat.le_of_eq hl.1)
  clear hl
  have hP := rpre_start w (.slice A n c) (.slice D m k) 35 30
  obtain ⟨W0, hW0⟩ : ∃ W, W = w.alloc (.cells #[.slice A n c, .slice D m k] 35) := ⟨_, rfl⟩
  rw [← hW0] at hP
  obtain ⟨W1, hW1⟩ : ∃ W, W = W0.alloc (.cells #[.slice none 0 0, .int .i64 0] 30) := ⟨_, rfl⟩
  rw [← hW1] at hP
  have HZ0 := hide hP.z
  have HAL0 := hide hP.b0
  have hz1 : W1.heap.size = w.heap.size + 2 := by rw [hW1]; simp [hP.z]
  have hE := estate_draw hP (b := b) (h.keep hP.b0) (by have := hP.z; omega) 30
  rw [hz1] at hE
  have HARG := hide (show BoxW W0 w.heap.size (.slice A n c) (.slice D m k) from by rw [hW0]; exact BoxW.new _ _ _ _)
  have HW := hide (show W1 = (w.alloc (.cells #[.slice A n c, .slice D m k] 35)).alloc (.cells #[.slice none 0 0, .int .i64 0] 30) by rw [hW1, hW0])
  have HE := hide hE
  clear h hs hP hW0 hW1 hE
  go_enter Tryd.func148, Tryd.ntmps148
  go_wp2_with (fail)
  rw [← HW.out]
  go_loopw [6] (fun i W => ∃ K : Nat, K ≤ n ∧ i = .int .i64 K ∧ (∃ G c9 l, EState W0 (· = b) (w.heap.size + 1) (w.heap.size + 2) W G K c9 l 0 ∧ Hid (∀ u ∈ l, -1 ≤ u ∧ u ≤ 1048576))) (fun i _ => n - (intOf i).toNat)
  case atStart => exact ⟨0, Nat.zero_le _, rfl, none, 0, [], HE.out, fun u hu => by cases hu⟩
  case round =>
    clear HE
    obtain ⟨K, hk, rfl, G, c9, l, hS, HBD⟩ := hrel
    have HS := hide hS
    clear hS
    have hbx : ¬ w.heap.size = b := by omega
    have HRO := hide ((HSO.out.only ((Only.of_below (S := (· = b)) HAL0.out).trans HS.out.only) (fun k hk => .inl (by omega))).m.rows)
    obtain ⟨x0, x1, f0, f1, xl⟩ := HARG.out.only HS.out.only hbx
    by_cases hlt : K < n
    · obtain ⟨au, A1, n1, c1, A2, n2, c2, rfl, hbk, g0, g1, g2, hI⟩ := HRO.out.1.at_ hlt
      obtain ⟨a, ha⟩ : ∃ a, a = d.attrs[K]?.getD default := ⟨_, rfl⟩
      rw [← ha] at g0 hI
      have HI := hide hI
      clear ha hI
      have hbo := binsOf_bd a
      go_wp2_with (fail)
      refine (specBins_any A1 n1 c1 A2 n2 c2 a _ HI.out).mono ?_
      rintro e w4 ⟨rfl, hb⟩
      generalize binsOf a = nb at *
      replace HS := hide (HS.out.keep hb)
      clear hb x0 x1 f0 f1 xl g0 g1 g2 hbk HI HRO
      go_wp2_with (fail)
      refine (l1Below_any b nb _ (HS.out.cur b rfl) (by omega)).mono ?_
      rintro e w5 ⟨u, rfl, hu0, hu1, hu2, hC, ho⟩
      replace HS := hide (HS.out.draw (fun j hj => by subst hj; exact hC) ho)
      clear hC ho
      have hu3 : u ≤ 4 := by
        rcases (show nb ≤ 0 ∨ 0 < nb by omega) with h | h
        · have := hu2 h; omega
        · have := hu1 h; omega
      clear hu1 hu2
      go_wp2_with (fail)
      refine (l1Once_any b 9 _ (HS.out.cur b rfl) (by omega)).mono ?_
      rintro e w6 ⟨t, rfl, hC, ho⟩
      replace HS := hide (HS.out.draw (fun j hj => by subst hj; exact hC) ho)
      clear hC ho
      cases t
      · obtain ⟨e0, e1, k0, k1, el⟩ := HS.out.box
        have HSZ := hide (show W0.heap.size ≤ w6.heap.size from HS.out.only.size)
        go_wp2_with (at_builtin; go_must (refine wpList_append_one w6 rfl _ _ 28 rfl W0.heap.size 3 (.int .i64 0) 1 8 Tryd.underlying28 infoI rfl (by decide) _ K _ [.int .i64 u] rfl HS.out.own _ rfl rfl (by simp [Value.oneCell']) rfl (by unfold maxLen; omega) (by omega) HSZ.out ?_); intro v' w9 hown9 hb9 hn9 hg9; obtain ⟨D9, m9, rfl⟩ := own_shape hown9; obtain ⟨y0, y1, q0, q1, yl⟩ := (HS.out.turn hb9 hg9).2.1)
        have HS9 := hide (HS.out.item (G' := D9) (k' := m9) hown9 hb9 hg9 hn9)
        have HB9 := hide (bins_more HBD.out (show -1 ≤ u ∧ u ≤ 1048576 by omega))
        clear hown9 hb9 hg9 hn9 e0 e1 k0 k1 el y0 y1 q0 q1 yl HS
        go_wp2
        go_roundw
        case rel => exact ⟨K + 1, by omega, by go_num, D9, m9, _, HS9.out, HB9⟩
        case measure => simp [intOf]; omega
      · obtain ⟨e0, e1, k0, k1, el⟩ := HS.out.box
        have HSZ := hide (show W0.heap.size ≤ w6.heap.size from HS.out.only.size)
        go_wp2_with (at_builtin; go_must (refine wpList_append_one w6 rfl _ _ 28 rfl W0.heap.size 3 (.int .i64 0) 1 8 Tryd.underlying28 infoI rfl (by decide) _ K _ [.int .i64 (-1)] rfl HS.out.own _ rfl rfl (by simp [Value.oneCell']) rfl (by unfold maxLen; omega) (by omega) HSZ.out ?_); intro v' w9 hown9 hb9 hn9 hg9; obtain ⟨D9, m9, rfl⟩ := own_shape hown9; obtain ⟨y0, y1, q0, q1, yl⟩ := (HS.out.turn hb9 hg9).2.1)
        have HS9 := hide (HS.out.item (G' := D9) (k' := m9) hown9 hb9 hg9 hn9)
        have HB9 := hide (bins_more HBD.out (show -1 ≤ (-1) ∧ (-1) ≤ 1048576 by omega))
        clear hown9 hb9 hg9 hn9 e0 e1 k0 k1 el y0 y1 q0 q1 yl HS
        go_wp2
        go_roundw
        case rel => exact ⟨K + 1, by omega, by go_num, D9, m9, _, HS9.out, HB9⟩
        case measure => simp [intOf]; omega
    · obtain rfl : K = n := by omega
      go_wp2_with (fail)
      refine (l1Below_any b m _ (HS.out.cur b rfl) (by omega)).mono ?_
      rintro e w5 ⟨u, rfl, hu0, hu1, hu2, hC, ho⟩
      replace HS := hide (HS.out.draw (fun j hj => by subst hj; exact hC) ho)
      clear hC ho x0 x1 f0 f1 xl HRO
      have hu3 : u ≤ 1048576 := by
        rcases (show (m : Int) ≤ 0 ∨ (0 : Int) < m by omega) with h | h
        · have := hu2 h; omega
        · have := hu1 h; omega
      clear hu1 hu2
      have HSC := hide (HS.out.setCls u)
      obtain ⟨x0, x1, f0, f1, xl⟩ := HARG.out.only HSC.out.only hbx
      obtain ⟨e0, e1, k0, k1, el⟩ := HS.out.box
      rcases Nat.eq_zero_or_pos K with hK0 | hK0
      · obtain ⟨r0, r1, h0, h1, rl⟩ := HSC.out.res
        subst hK0
        obtain ⟨y0, y1, q0, q1, yl⟩ := HSC.out.box
        have HFIN := hide (HSC.out.fin (.slice G 0 c9) (.int .i64 u))
        go_wp2
        exact bodyPost_ret (v := .agg #[.slice G 0 c9, .int .i64 u]) (by simp [results, Tryd.results148, go_sem, r0, r1]) rfl
          ⟨_, _, _, _, rfl, ⟨l, own_lower HFIN.out.1 (by have := HZ0.out; omega), HBD.out, by omega, by omega⟩, ⟨by omega, by have := HNL.out; omega⟩, HFIN.out.2.1 b rfl, (Only.of_below HAL0.out).trans HFIN.out.2.2⟩
      · have HIN := hide (ints_of HS.out.own)
        clear e0 e1 k0 k1 el
        obtain ⟨e0, e1, k0, k1, el⟩ := HS.out.box
        have hK1 : (0 : Int) < K := by omega
        go_wp2_with (fail)
        refine (l1Once_any b 5 _ (HSC.out.cur b rfl) (by omega)).mono ?_
        rintro e w6 ⟨t, rfl, hC, ho⟩
        have HS6 := hide (HSC.out.draw (fun j hj => by subst hj; exact hC) ho)
        clear hC ho x0 x1 f0 f1 xl e0 e1 k0 k1 el HIN
        obtain ⟨x0, x1, f0, f1, xl⟩ := HARG.out.only HS6.out.only hbx
        cases t
        · rcases Nat.eq_zero_or_pos m with hm0 | hm0
          · subst hm0
            obtain ⟨e0, e1, k0, k1, el⟩ := HS6.out.box
            obtain ⟨r0, r1, h0, h1, rl⟩ := HS6.out.res
            have HFIN := hide (HS6.out.fin (.slice G K c9) (.int .i64 u))
            go_wp2
            exact bodyPost_ret (v := .agg #[.slice G K c9, .int .i64 u]) (by simp [results, Tryd.results148, go_sem, r0, r1]) rfl
              ⟨_, _, _, _, rfl, ⟨l, own_lower HFIN.out.1 (by have := HZ0.out; omega), HBD.out, by omega, by omega⟩, ⟨by omega, by have := HNL.out; omega⟩, HFIN.out.2.1 b rfl, (Only.of_below HAL0.out).trans HFIN.out.2.2⟩
          · obtain ⟨ad, rfl, hadb, hcell⟩ := (ints_of HS6.out.own).at_ hK0
            obtain ⟨v, hv⟩ : ∃ v, v = l[0]?.getD 0 := ⟨_, rfl⟩
            have hvb := HBD.out v (by have := (ints_of HS6.out.own).1; rw [hv, List.getElem?_eq_getElem (by omega), Option.getD_some]; exact List.getElem_mem (by omega))
            rw [← hv, show ad.add 0 = ad by simp [Addr.add]] at hcell
            clear hv
            have hm1 : (0 : Int) < m := by omega
            have HSD := hide (HS6.out.setCls ((v + 1) % (m : Int)))
            have hmod := emod_in (x := v + 1) hm1
            obtain ⟨e0, e1, k0, k1, el⟩ := HS6.out.box
            obtain ⟨y0, y1, q0, q1, yl⟩ := HSD.out.box
            obtain ⟨r0, r1, h0, h1, rl⟩ := HSD.out.res
            have HFIN := hide (HSD.out.fin (.slice (some ad) K c9) (.int .i64 ((v + 1) % (m : Int))))
            have hi1 : (0 : Int) < K := by omega
            go_wp2
            go_region
            all_goals
              go_wp2
              exact bodyPost_ret (v := .agg #[.slice (some ad) K c9, .int .i64 ((v + 1) % (m : Int))]) (by simp [results, Tryd.results148, go_sem, r0, r1]) rfl
                ⟨_, _, _, _, rfl, ⟨l, own_lower (own_below HFIN.out.1 (Below.refl _ _).drew) (by have := HZ0.out; omega), HBD.out, by omega, by omega⟩, ⟨by omega, by have := HNL.out; omega⟩, (HFIN.out.2.1 b rfl).keep (Below.refl _ _).drew, (Only.of_below HAL0.out).trans HFIN.out.2.2.drew⟩
        · obtain ⟨e0, e1, k0, k1, el⟩ := HS6.out.box
          obtain ⟨r0, r1, h0, h1, rl⟩ := HS6.out.res
          have HFIN := hide (HS6.out.fin (.slice G K c9) (.int .i64 u))
          go_wp2
          exact bodyPost_ret (v := .agg #[.slice G K c9, .int .i64 u]) (by simp [results, Tryd.results148, go_sem, r0, r1]) rfl
            ⟨_, _, _, _, rfl, ⟨l, own_lower HFIN.out.1 (by have := HZ0.out; omega), HBD.out, by omega, by omega⟩, ⟨by omega, by have := HNL.out; omega⟩, HFIN.out.2.1 b rfl, (Only.of_below HAL0.out).trans HFIN.out.2.2⟩
end Go.Proofs.YtohodehmidbmlaaDoor
namespace Go.Proofs.YtohodehmidbmlaaDoor
open Go.RowKit
set_option maxRecDepth 100000

def namesL : List ByteArray := [⟨#[97, 103, 101]⟩, ⟨#[115, 105, 122, 101]⟩, ⟨#[99, 111, 108, 111, 117, 114]⟩, ⟨#[107]⟩, ⟨#[108, 111, 110, 103, 110, 97, 109, 101]⟩]
def valsL : List ByteArray := [⟨#[114, 101, 100]⟩, ⟨#[98, 108, 117, 101]⟩, ⟨#[120]⟩, ⟨#[103, 114, 101, 101, 110]⟩]
def badNames : List ByteArray := [⟨#[]⟩, ⟨#[85, 112, 112, 101, 114]⟩, ⟨#[119, 97, 121, 116, 111, 111, 108, 111, 110, 103]⟩, ⟨#[97, 32, 98]⟩]
def badVals : List ByteArray := [⟨#[114, 101, 100]⟩, ⟨#[102, 105, 102, 116, 104]⟩, ⟨#[]⟩]
theorem namesL_size : ∀ k, k < 5 → (namesL[k]?.getD ByteArray.empty).size ≤ 16 := by decide
theorem valsL_size : ∀ k, k < 4 → (valsL[k]?.getD ByteArray.empty).size ≤ 16 := by decide
theorem badNames_size : ∀ k, k < 4 → (badNames[k]?.getD ByteArray.empty).size ≤ 16 := by decide
theorem badVals_size : ∀ k, k < 3 → (badVals[k]?.getD ByteArray.empty).size ≤ 16 := by decide
/-- A tiny attribute. -/
def attrTiny (a : AttrD) : Prop := a.name.size ≤ 16 ∧ (∀ s ∈ a.vals, s.size ≤ 16) ∧ a.cuts.length ≤ 8 ∧ a.vals.length ≤ 8
theorem attrTiny.small {a : AttrD} (h : attrTiny a) : attrSmall a := ⟨by have := h.1; omega, fun s hs => by have := h.2.1 s hs; omega, by have := h.2.2.1; omega, by have := h.2.2.2; omega⟩
theorem one_more {l : List ByteArray} {u : ByteArray} (h : ∀ s ∈ l, s.size ≤ 16) (hu : u.size ≤ 16) : ∀ s ∈ l ++ [u], s.size ≤ 16 := by
  intro s hs
  rcases List.mem_append.1 hs with hs | hs
  · exact h s hs
  · rw [List.mem_singleton.1 hs]; exact hu

set_option maxHeartbeats 8000000 in
theorem l5RightAttr_any (b i : Nat) (w : World) (h : Cur w b) (hi : i < 5) :
    Calls Tryd.prog 150 #[.pointer (some ⟨b, 0, none⟩), .int .i64 i] w fun e w' => ∃ a D1 n1 m1 D2 n2 m2, e = .returned (.agg #[.string a.name, .slice D1 n1 m1, .slice D2 n2 m2]) ∧
      Bag w.heap.size 2 w' (attrRows D1 n1 m1 D2 n2 m2 a) ∧ a.name.size ≤ 16 ∧ (∀ s ∈ a.vals, s.size ≤ 16) ∧ n1 ≤ 3 ∧ n2 ≤ 4 ∧ (∀ k, has 2 (attrRows D1 n1 m1 D2 n2 m2 a) k → w.heap.size < k) ∧ Cur w' b ∧ Only (· = b) w w' := by
  have HC := hide h
  have hbw := h.lt
  clear h
  have hrem : (i : Int) % 5 = i := by omega
  obtain ⟨nm, hnm, hsz⟩ : ∃ nm, (namesL.map Value.string)[i]? = some (.string nm) ∧ nm.size ≤ 16 := ⟨namesL[i]?.getD ByteArray.empty, by
    rw [List.getElem?_map, List.getElem?_eq_getElem (show i < namesL.length from hi)]; rfl, namesL_size i hi⟩
  obtain ⟨W0, hW0⟩ : ∃ W, W = w.alloc (.cells #[.string ⟨#[]⟩, .slice none 0 0, .slice none 0 0] 64) := ⟨_, rfl⟩
  have hld : ∀ h : i < (namesL.map Value.string).length, (namesL.map Value.string)[i]'h = .string nm := fun h => by rw [List.getElem?_eq_getElem h] at hnm; exact Option.some.inj hnm
  have HZ0 := hide (show W0.heap.size = w.heap.size + 1 by rw [hW0]; simp)
  have hR0 := BoxA.new w (.string ⟨#[]⟩) (.slice none 0 0) (.slice none 0 0) 64
  rw [← hW0] at hR0
  have hal0 : Below w.heap.size w W0 := by rw [hW0]; exact (Below.refl _ _).alloc (Nat.le_refl _) _
  have hal1 : Below W0.heap.size W0 ((W0.alloc (.cells (namesL.map Value.string).toArray 9)).alloc (.cells #[.string nm, .slice none 0 0, .slice none 0 0] 64)) := ((Below.refl _ _).alloc (Nat.le_refl _) _).alloc (by simp) _
  have hX := BoxA.new (W0.alloc (.cells (namesL.map Value.string).toArray 9)) (.string nm) (.slice none 0 0) (.slice none 0 0) 64
  obtain ⟨W1, hW1⟩ : ∃ W, W = (W0.alloc (.cells (namesL.map Value.string).toArray 9)).alloc (.cells #[.string nm, .slice none 0 0, .slice none 0 0] 64) := ⟨_, rfl⟩
  have hz1 : (W0.alloc (.cells (namesL.map Value.string).toArray 9)).heap.size = w.heap.size + 1 + 1 := by simp [HZ0.out]
  rw [hz1, ← hW1] at hX
  rw [← hW1] at hal1
  have hR := hR0.keep hal1
  have HW0 := hide hW0
  have HW1 := hide hW1
  clear hW0 hW1 hz1 hR0
  go_enter Tryd.func150, Tryd.ntmps150
  simp only [namesL, List.map_cons, List.map_nil] at hld
  have hW1' := HW1.out
  rw [HW0.out] at hW1'
  simp only [namesL, List.map_cons, List.map_nil] at hW1'
  have HW := hide hW1'
  have hal : Below w.heap.size w W1 := bthen hal0 hal1
  have HS := hide (show AState w b w.heap.size (w.heap.size + 1 + 1) W1 none 0 0 none 0 0 ⟨nm, [], []⟩ from
    ⟨by omega, hR, hX, attr_start _ _ _, (fun k e => by cases e), (fun k e => by cases e), HC.out.keep hal, Only.of_below hal⟩)
  clear hnm hW1' HW0 HW1 hal0 hal1 HZ0 hX hR hal HC
  go_wp2_with (fail)
  rw [← HW.out]
  refine (l1Once_any b 2 _ HS.out.cur (by omega)).mono ?_
  rintro e w2 ⟨x, rfl, hC2, ho2⟩
  replace HS := hide (HS.out.draw hC2 ho2)
  clear ho2 hC2 HW hld hrem
  cases x
  · go_wp2_with (fail)
    refine (l1Below_any b 3 _ HS.out.cur (by omega)).mono ?_
    rintro e w3 ⟨x, rfl, hx0, hx1, -, hC3, ho3⟩
    replace HS := hide (HS.out.draw hC3 ho3)
    clear hC3 ho3
    obtain ⟨N, hN, hN4⟩ : ∃ N : Nat, 2 + x = N ∧ N ≤ 4 := ⟨(2 + x).toNat, by omega, by have := hx1 (by omega); omega⟩
    clear hx0 hx1
    go_wp2
    go_loopw [10] (fun j W => ∃ K : Nat, K ≤ N ∧ j = .int .i64 K ∧ (∃ A2 c2 l, AState w b w.heap.size (w.heap.size + 1 + 1) W none 0 0 A2 K c2 ⟨nm, [], l⟩ ∧ Hid (∀ s ∈ l, s.size ≤ 16))) (fun j _ => N - (intOf j).toNat)
    case atStart => exact ⟨0, Nat.zero_le _, rfl, ⟨none, 0, [], HS.out, fun s hs => by cases hs⟩⟩
    case round =>
      clear HS
      obtain ⟨K, hk, rfl, ⟨A2, c2, l, hS, hl⟩⟩ := hrel
      have HS := hide hS
      clear hS
      by_cases hlt : K < N
      · obtain ⟨u, hu, hus⟩ : ∃ u, (valsL.map Value.string)[K]? = some (.string u) ∧ u.size ≤ 16 := ⟨valsL[K]?.getD ByteArray.empty, by
          rw [List.getElem?_map, List.getElem?_eq_getElem (show K < valsL.length by show K < 4; omega)]; rfl, valsL_size K (by omega)⟩
        simp only [valsL, List.map_cons, List.map_nil] at hu
        obtain ⟨x0, x1, x2, f0, f1, f2, xl⟩ := HS.out.box
        have hZ3 : w.heap.size < wr.heap.size := HS.out.res.lt
        have HSZ := hide (Nat.le_of_lt hZ3)
        have hK4 : (K : Int) < 4 := by omega
        have xl2 : w.heap.size + 1 < wr.heap.size := by omega
        have hal : ∀ o1 o2, Below wr.heap.size wr ((wr.alloc o1).alloc o2).drew := fun o1 o2 => (((Below.refl _ _).alloc (Nat.le_refl _) o1).alloc (by simp) o2).drew
        have HAL := hide hal
        have HUS := hide hus
        clear hus hal
        go_wp2
        go_region_law (refine step_append_src _ rfl (.tmp 51) (.tmp 56) 23 rfl w.heap.size 9 (.string ⟨#[]⟩) 1 16 Tryd.underlying23 infoS rfl (by decide) (.slice A2 K c2) K (l.map Value.string) [.string u] rfl (((attr_own2 HS.out.bag).alloc _).alloc _) _ 1 1 rfl rfl (new_cells (by simp) _ _) (by simp [Value.oneCell']) (by unfold maxLen; omega) (by omega) (by have := HSZ.out; simp; omega) ?_; intro v' w9 hown9 hb9 hg9 hn9; obtain ⟨D9, m9, rfl⟩ := own_shape hown9; obtain ⟨y0, y1, y2, g0, g1, g2, yl⟩ := ((HS.out.keep (HAL.out _ _)).turn2 hb9 hg9).2.1)
        all_goals
          obtain ⟨A9, c9, e9, hS9⟩ := (HS.out.keep (HAL.out _ _)).val hown9 hb9 hg9 hn9
          injection e9 with e91 _ e92
          subst e91 e92
          have HS9 := hide hS9
          have HLL := hide (one_more hl.out HUS.out)
          clear hS9 hown9 hb9 hg9 hn9 x0 x1 x2 f0 f1 f2 xl xl2 hZ3 y0 y1 y2 g0 g1 g2 yl
          go_wp2
          exact ⟨⟨K + 1, by omega, by go_num, ⟨D9, m9, _, HS9.out, HLL⟩⟩, by simp [intOf]; omega⟩
      · obtain rfl : N = K := by omega
        obtain ⟨x0, x1, x2, f0, f1, f2, xl⟩ := HS.out.box
        obtain ⟨r0, r1, r2, g0, g1, g2, rl⟩ := HS.out.res
        go_wp2
        obtain ⟨t1, t2, t3⟩ := HS.out.fin (.string nm) (.slice none 0 0) (.slice A2 N c2)
        exact bodyPost_ret (v := .agg #[.string nm, .slice none 0 0, .slice A2 N c2]) (by simp [results, Tryd.results150, go_sem, r0, r1, r2]) rfl
          ⟨⟨nm, [], l⟩, none, 0, 0, A2, N, c2, rfl, t1, hsz, hl.out, by omega, by omega, (fun k hk => by have := (t1.lt hk).1; have := (HS.out.hasne hk).2; omega), t2, t3⟩
  · go_wp2_with (fail)
    refine (l1Below_any b 3 _ HS.out.cur (by omega)).mono ?_
    rintro e w3 ⟨x, rfl, hx0, hx1, -, hC3, ho3⟩
    replace HS := hide (HS.out.draw hC3 ho3)
    clear hC3 ho3
    obtain ⟨N, hN, hN4⟩ : ∃ N : Nat, 1 + x = N ∧ N ≤ 3 := ⟨(1 + x).toNat, by omega, by have := hx1 (by omega); omega⟩
    clear hx0 hx1
    go_wp2_with (fail)
    refine (l1PickInt_any b (some ⟨w3.heap.size, 0, none⟩) 5 5 [-9999, -7, 0, 3, 20] _ (HS.out.cur.keep ((Below.refl _ _).alloc (Nat.le_refl _) _)) (ints_lit w3 [-9999, -7, 0, 3, 20] _) (fun _ => lit_apart HS.out.cur) (by omega) (by omega)).mono ?_
    rintro e w4 ⟨k, hk, rfl, hC3, ho3⟩
    have hbA : Below w3.heap.size w3 (w3.alloc (.cells (([-9999, -7, 0, 3, 20] : List Int).map (Value.int .i64)).toArray 3)) := (Below.refl _ _).alloc (Nat.le_refl _) _
    replace HS := hide ((HS.out.keep hbA).draw hC3 ho3)
    clear hC3 ho3 hbA
    obtain ⟨t, ht, ht0, ht1⟩ : ∃ t, ([-9999, -7, 0, 3, 20] : List Int)[k]?.getD 0 = t ∧ -9999 ≤ t ∧ t ≤ 20 :=
      ⟨_, rfl, (show ∀ k, k < 5 → -9999 ≤ ([-9999, -7, 0, 3, 20] : List Int)[k]?.getD 0 by decide) k hk, (show ∀ k, k < 5 → ([-9999, -7, 0, 3, 20] : List Int)[k]?.getD 0 ≤ 20 by decide) k hk⟩
    rw [ht]
    clear ht hk
    go_wp2
    go_loopw [7, 8] (fun v j W => ∃ (K : Nat) (u : Int), K ≤ N ∧ v = .int .i64 u ∧ -9999 ≤ u ∧ u ≤ 20 + 6 * K ∧ j = .int .i64 K ∧ (∃ A1 c1 l, AState w b w.heap.size (w.heap.size + 1 + 1) W A1 K c1 none 0 0 ⟨nm, l, []⟩)) (fun _ j _ => N - (intOf j).toNat)
    case atStart => exact ⟨0, t, Nat.zero_le _, rfl, ht0, by omega, rfl, ⟨none, 0, [], HS.out⟩⟩
    case round =>
      clear HS ht0 ht1
      obtain ⟨K, u, hk, rfl, hu0, hu1, rfl, ⟨A1, c1, l, hS⟩⟩ := hrel
      have HS := hide hS
      clear hS
      by_cases hlt : K < N
      · obtain ⟨x0, x1, x2, f0, f1, f2, xl⟩ := HS.out.box
        have HSZ := hide HS.out.only.size
        go_wp2_with (at_builtin; go_must (refine wpList_append_one wr rfl _ _ 28 rfl w.heap.size 3 (.int .i64 0) 1 8 Tryd.underlying28 infoI rfl (by decide) _ K _ [.int .i64 u] rfl (attr_own1 HS.out.bag) _ rfl rfl (by simp [Value.oneCell']) rfl (by unfold maxLen; omega) (by omega) HSZ.out ?_); intro v' w9 hown9 hb9 hn9 hg9; obtain ⟨D9, m9, rfl⟩ := own_shape hown9; obtain ⟨y0, y1, y2, g0, g1, g2, yl⟩ := (HS.out.turn1 hb9 hg9).2.1)
        obtain ⟨A9, c9, e9, hS9⟩ := HS.out.cut hown9 hb9 hg9 hn9
        injection e9 with e91 _ e92
        subst e91 e92
        have HS9 := hide hS9
        clear hS9 hown9 hb9 hg9 hn9 x0 x1 x2 f0 f1 f2 xl y0 y1 y2 g0 g1 g2 yl
        refine (l1Below_any b 6 _ HS9.out.cur (by omega)).mono ?_
        rintro e w10 ⟨y, rfl, hy0, hy1, -, hC3, ho3⟩
        replace HS9 := hide (HS9.out.draw hC3 ho3)
        have hy2 := hy1 (by omega)
        clear hC3 ho3 hy1
        go_wp2
        go_roundw
        case rel => exact ⟨K + 1, u + 1 + y, by omega, by go_num, by omega, by omega, by go_num, ⟨D9, m9, _, HS9.out⟩⟩
        case measure => simp [intOf]; omega
      · obtain rfl : N = K := by omega
        obtain ⟨x0, x1, x2, f0, f1, f2, xl⟩ := HS.out.box
        obtain ⟨r0, r1, r2, g0, g1, g2, rl⟩ := HS.out.res
        go_wp2
        obtain ⟨t1, t2, t3⟩ := HS.out.fin (.string nm) (.slice A1 N c1) (.slice none 0 0)
        exact bodyPost_ret (v := .agg #[.string nm, .slice A1 N c1, .slice none 0 0]) (by simp [results, Tryd.results150, go_sem, r0, r1, r2]) rfl
          ⟨⟨nm, l, []⟩, A1, N, c1, none, 0, 0, rfl, t1, hsz, (by simp), by omega, by omega, (fun k hk => by have := (t1.lt hk).1; have := (HS.out.hasne hk).2; omega), t2, t3⟩

end Go.Proofs.YtohodehmidbmlaaDoor
namespace Go.Proofs.YtohodehmidbmlaaDoor
open Go.RowKit
set_option maxRecDepth 100000
set_option linter.unusedSimpArgs false


set_option maxHeartbeats 2000000 in
theorem l5DrawAttr_any (b : Nat) (w : World) (h : Cur w b) :
    Calls Tryd.prog 135 #[.pointer (some ⟨b, 0, none⟩)] w fun e w' => ∃ a D1 n1 m1 D2 n2 m2, e = .returned (.agg #[.string a.name, .slice D1 n1 m1, .slice D2 n2 m2]) ∧
      Bag w.heap.size 2 w' (attrRows D1 n1 m1 D2 n2 m2 a) ∧ attrTiny a ∧ Cur w' b ∧ Only (· = b) w w' := by
  have hbw := h.lt
  have hR := BoxA.new w (.string ⟨#[]⟩) (.slice none 0 0) (.slice none 0 0) 64
  have hal : Below w.heap.size w (w.alloc (.cells #[.string ⟨#[]⟩, .slice none 0 0, .slice none 0 0] 64)) := (Below.refl _ _).alloc (Nat.le_refl _) _
  have HC := hide (h.keep hal)
  clear h
  obtain ⟨W0, hW0⟩ : ∃ W, W = w.alloc (.cells #[.string ⟨#[]⟩, .slice none 0 0, .slice none 0 0] 64) := ⟨_, rfl⟩
  have HZ0 := hide (show W0.heap.size = w.heap.size + 1 by rw [hW0]; simp)
  rw [← hW0] at hR hal HC
  have HW := hide hW0
  clear hW0
  go_enter Tryd.func135, Tryd.ntmps135
  go_wp2_with (fail)
  rw [← HW.out]
  refine (l1Below_any b 5 _ HC.out (by omega)).mono ?_
  rintro e w2 ⟨x, rfl, hx0, hx1, -, hC2, ho2⟩
  have hR2 := hR.only ho2 (by omega)
  have hO2 := hide ((Only.of_below (S := (· = b)) hal).trans ho2)
  have hsz2 := hide (show w.heap.size + 1 ≤ w2.heap.size by rw [← HZ0.out]; exact ho2.size)
  have HC2 := hide hC2
  obtain ⟨i, rfl, hi⟩ : ∃ i : Nat, x = i ∧ i < 5 := ⟨x.toNat, by omega, by have := hx1 (by omega); omega⟩
  clear hR hal HC HZ0 HW ho2 hC2 hx0 hx1
  go_wp2_with (fail)
  refine (l5RightAttr_any b i _ HC2.out hi).mono ?_
  rintro e w3 ⟨a, D1, n1, m1, D2, n2, m2, rfl, hbag, hnm, hvs, hn1, hn2, -, hC3, ho3⟩
  have hz3 : w.heap.size + 1 ≤ w3.heap.size := Nat.le_trans hsz2.out ho3.size
  have hz2 := hsz2.out
  obtain ⟨W1, hW1⟩ : ∃ W, W = w3.alloc (.cells #[.string a.name, .slice D1 n1 m1, .slice D2 n2 m2] 64) := ⟨_, rfl⟩
  have hal1 : Below w3.heap.size w3 W1 := by rw [hW1]; exact (Below.refl _ _).alloc (Nat.le_refl _) _
  have hX := BoxA.new w3 (.string a.name) (.slice D1 n1 m1) (.slice D2 n2 m2) 64
  rw [← hW1] at hX
  have HS := hide (show AState w b w.heap.size w3.heap.size W1 D1 n1 m1 D2 n2 m2 a from
    ⟨by omega, (hR2.only ho3 (by omega)).keep hal1, hX, (hbag.mono (by omega)).below hal1,
      fun k e => by have := hbag.lt (k := k) ⟨0, by omega, e⟩; omega, fun k e => by have := hbag.lt (k := k) ⟨1, by omega, e⟩; omega, hC3.keep hal1, (hO2.out.trans ho3).trans (Only.of_below hal1)⟩)
  have HW1 := hide hW1
  have HL := hide HS.out.lens
  have HT := hide (show attrTiny a from ⟨hnm, hvs, by have := HL.out.1; omega, by have := HL.out.2; omega⟩)
  have hrx : w.heap.size < w3.heap.size := by omega
  clear hbag hnm hvs hC3 ho3 hal1 hX hW1 hR2 hO2 hsz2 HC2 hz2 hz3
  go_wp2_with (fail)
  rw [← HW1.out]
  clear HW1
  refine (l1Below_any b 14 _ HS.out.cur (by omega)).mono ?_
  rintro e w4 ⟨x, rfl, hx0, hx1, -, hC3, ho3⟩
  replace HS := hide (HS.out.draw hC3 ho3)
  clear hC3 ho3 hx1
  rcases (show x = 0 ∨ x = 1 ∨ x = 2 ∨ x = 3 ∨ x = 4 ∨ 5 ≤ x by omega) with rfl | rfl | rfl | rfl | rfl | hx5
  · go_wp2_with (fail)
    refine (l1Pick_any b (some ⟨w4.heap.size, 0, none⟩) 4 4 badNames _ (HS.out.cur.keep ((Below.refl _ _).alloc (Nat.le_refl _) _)) (strs_lit w4 badNames _) (fun _ => lit_apart HS.out.cur) (by omega) (by omega)).mono ?_
    rintro e w5 ⟨k, hk, rfl, hC3, ho3⟩
    have hbA : Below w4.heap.size w4 (w4.alloc (.cells (badNames.map Value.string).toArray 9)) := (Below.refl _ _).alloc (Nat.le_refl _) _
    replace HS := hide ((HS.out.keep hbA).draw hC3 ho3)
    obtain ⟨s, hs, hs16⟩ : ∃ s, badNames[k]?.getD ByteArray.empty = s ∧ s.size ≤ 16 := ⟨_, rfl, badNames_size k hk⟩
    rw [hs]
    clear hC3 ho3 hbA hs hk
    obtain ⟨x0, x1, x2, f0, f1, f2, xl⟩ := HS.out.box
    obtain ⟨r0, r1, r2, h0, h1, h2, rl⟩ := HS.out.res
    have HSZ := hide HS.out.only.size
    go_wp2
    obtain ⟨t1, t2, t3⟩ := (HS.out.set0 s).fin (.string s) (.slice D1 n1 m1) (.slice D2 n2 m2)
    exact bodyPost_ret (v := .agg #[.string s, .slice D1 n1 m1, .slice D2 n2 m2]) (by simp [results, Tryd.results135, go_sem, r0, r1, r2, rl, xl, hrx]) rfl
      ⟨⟨s, a.cuts, a.vals⟩, _, _, _, _, _, _, rfl, t1, ⟨hs16, HT.out.2⟩, t2, t3⟩
  · obtain ⟨x0, x1, x2, f0, f1, f2, xl⟩ := HS.out.box
    have HSZ := hide HS.out.only.size
    have hal := hide (fun o1 => (((Below.refl w4.heap.size w4).alloc (Nat.le_refl _) o1).drew : Below w4.heap.size w4 (w4.alloc o1).drew))
    go_wp2
    go_region_law (first
      | (go_simp; go_at_call 120; refine (l1PickInt_any b (some ⟨w4.heap.size, 0, none⟩) 4 4 [-10000, 9999, 9998, 0] _ (HS.out.cur.keep (hal.out _)) (ints_lit w4 [-10000, 9999, 9998, 0] _) (fun _ => lit_apart HS.out.cur) (by omega) (by omega)).mono ?_; rintro e w5 ⟨k, hk, rfl, hC3, ho3⟩; obtain ⟨u, hu⟩ : ∃ u, ([-10000, 9999, 9998, 0] : List Int)[k]?.getD 0 = u := ⟨_, rfl⟩; rw [hu]; have HS5 := hide ((HS.out.keep (hal.out _)).draw hC3 ho3); obtain ⟨y0, y1, y2, g0, g1, g2, yl⟩ := HS5.out.box; have HSZ5 := hide HS5.out.only.size; clear hC3 ho3 hu hk)
      | (refine step_append_src _ rfl (.tmp 19) (.tmp 23) 28 rfl w.heap.size 3 (.int .i64 0) 1 8 Tryd.underlying28 infoI rfl (by decide) (.slice D1 n1 m1) n1 (a.cuts.map (Value.int .i64)) [.int .i64 u] rfl ((attr_own1 HS5.out.bag).alloc _) _ 1 1 rfl rfl (new_cells rfl _ _) (by simp [Value.oneCell']) (by unfold maxLen; omega) (by omega) (by have := HSZ5.out; simp; omega) ?_; intro v' w9 hown9 hb9 hg9 hn9; obtain ⟨D9, m9, rfl⟩ := own_shape hown9; obtain ⟨z0, z1, z2, i0, i1, i2, zl⟩ := ((HS5.out.keep ((Below.refl _ _).alloc (Nat.le_refl _) _)).turn1 hb9 hg9).2.1))
    all_goals
      obtain ⟨A9, c9, e9, hS9⟩ := (HS5.out.keep ((Below.refl _ _).alloc (Nat.le_refl _) _)).cut hown9 hb9 hg9 hn9
      injection e9 with e91 _ e92
      subst e91 e92
      have HS9 := hide hS9
      clear hS9 hown9 hb9 hg9 hn9 x0 x1 x2 f0 f1 f2 xl y0 y1 y2 g0 g1 g2 yl z0 z1 z2 i0 i1 i2 zl HS HS5 HSZ HSZ5 hal
      obtain ⟨x0, x1, x2, f0, f1, f2, xl⟩ := HS9.out.box
      obtain ⟨r0, r1, r2, h0, h1, h2, rl⟩ := HS9.out.res
      go_wp2
      obtain ⟨t1, t2, t3⟩ := HS9.out.fin (.string a.name) (.slice D9 (n1 + 1) m9) (.slice D2 n2 m2)
      exact bodyPost_ret (v := .agg #[.string a.name, .slice D9 (n1 + 1) m9, .slice D2 n2 m2]) (by simp [results, Tryd.results135, go_sem, r0, r1, r2]) rfl
        ⟨⟨a.name, a.cuts ++ [u], a.vals⟩, _, _, _, _, _, _, rfl, t1, ⟨HT.out.1, HT.out.2.1, by have := HL.out.1; simp only [List.length_append, List.length_cons, List.length_nil]; omega, HT.out.2.2.2⟩, t2, t3⟩
  · obtain ⟨x0, x1, x2, f0, f1, f2, xl⟩ := HS.out.box
    have HSZ := hide HS.out.only.size
    have hal := hide (fun o1 => (((Below.refl w4.heap.size w4).alloc (Nat.le_refl _) o1).drew : Below w4.heap.size w4 (w4.alloc o1).drew))
    go_wp2
    go_region_law (first
      | (go_simp; go_at_call 100; refine (l1Pick_any b (some ⟨w4.heap.size, 0, none⟩) 3 3 badVals _ (HS.out.cur.keep (hal.out _)) (strs_lit w4 badVals _) (fun _ => lit_apart HS.out.cur) (by omega) (by omega)).mono ?_; rintro e w5 ⟨k, hk, rfl, hC3, ho3⟩; obtain ⟨u, hu, hus⟩ : ∃ u, badVals[k]?.getD ByteArray.empty = u ∧ u.size ≤ 16 := ⟨_, rfl, badVals_size k hk⟩; rw [hu]; have HUS := hide hus; have HS5 := hide ((HS.out.keep (hal.out _)).draw hC3 ho3); obtain ⟨y0, y1, y2, g0, g1, g2, yl⟩ := HS5.out.box; have HSZ5 := hide HS5.out.only.size; clear hC3 ho3 hu hk hus)
      | (refine step_append_src _ rfl (.tmp 29) (.tmp 33) 23 rfl w.heap.size 9 (.string ⟨#[]⟩) 1 16 Tryd.underlying23 infoS rfl (by decide) (.slice D2 n2 m2) n2 (a.vals.map Value.string) [.string u] rfl ((attr_own2 HS5.out.bag).alloc _) _ 1 1 rfl rfl (new_cells rfl _ _) (by simp [Value.oneCell']) (by unfold maxLen; omega) (by omega) (by have := HSZ5.out; simp; omega) ?_; intro v' w9 hown9 hb9 hg9 hn9; obtain ⟨D9, m9, rfl⟩ := own_shape hown9; obtain ⟨z0, z1, z2, i0, i1, i2, zl⟩ := ((HS5.out.keep ((Below.refl _ _).alloc (Nat.le_refl _) _)).turn2 hb9 hg9).2.1))
    all_goals
      obtain ⟨A9, c9, e9, hS9⟩ := (HS5.out.keep ((Below.refl _ _).alloc (Nat.le_refl _) _)).val hown9 hb9 hg9 hn9
      injection e9 with e91 _ e92
      subst e91 e92
      have HS9 := hide hS9
      clear hS9 hown9 hb9 hg9 hn9 x0 x1 x2 f0 f1 f2 xl y0 y1 y2 g0 g1 g2 yl z0 z1 z2 i0 i1 i2 zl HS HS5 HSZ HSZ5 hal
      obtain ⟨x0, x1, x2, f0, f1, f2, xl⟩ := HS9.out.box
      obtain ⟨r0, r1, r2, h0, h1, h2, rl⟩ := HS9.out.res
      go_wp2
      obtain ⟨t1, t2, t3⟩ := HS9.out.fin (.string a.name) (.slice D1 n1 m1) (.slice D9 (n2 + 1) m9)
      exact bodyPost_ret (v := .agg #[.string a.name, .slice D1 n1 m1, .slice D9 (n2 + 1) m9]) (by simp [results, Tryd.results135, go_sem, r0, r1, r2]) rfl
        ⟨⟨a.name, a.cuts, a.vals ++ [u]⟩, _, _, _, _, _, _, rfl, t1, ⟨HT.out.1, one_more HT.out.2.1 HUS.out, HT.out.2.2.1, by have := HL.out.2; simp only [List.length_append, List.length_cons, List.length_nil]; omega⟩, t2, t3⟩
  · 
    obtain ⟨x0, x1, x2, f0, f1, f2, xl⟩ := HS.out.box
    obtain ⟨r0, r1, r2, h0, h1, h2, rl⟩ := HS.out.res
    have HSZ := hide HS.out.only.size
    go_wp2
    obtain ⟨t1, t2, t3⟩ := (HS.out.cuts_lit [] (by decide)).fin (.string a.name) (.slice (some ⟨w4.heap.size, 0, none⟩) 0 0) (.slice D2 n2 m2)
    simp (disch := first | omega | (simp <;> omega)) only [World.setCell_alloc_past, List.map_nil, List.map_cons, List.length_nil, List.length_cons, Nat.zero_add] at t1 t2 t3
    exact bodyPost_ret (v := .agg #[.string a.name, .slice (some ⟨w4.heap.size, 0, none⟩) 0 0, .slice D2 n2 m2]) (by simp [results, Tryd.results135, go_sem, r0, r1, r2, rl, xl, hrx]) rfl
      ⟨⟨a.name, [], a.vals⟩, _, _, _, _, _, _, rfl, t1, ⟨HT.out.1, HT.out.2.1, Nat.zero_le _, HT.out.2.2.2⟩, t2, t3⟩
  · 
    obtain ⟨x0, x1, x2, f0, f1, f2, xl⟩ := HS.out.box
    obtain ⟨r0, r1, r2, h0, h1, h2, rl⟩ := HS.out.res
    have HSZ := hide HS.out.only.size
    go_wp2
    obtain ⟨t1, t2, t3⟩ := ((HS.out.cuts_lit [9998] (by decide)).vals_lit' (g := w4.heap.size + 1) (by simp) [] (by decide)).fin (.string a.name) (.slice (some ⟨w4.heap.size, 0, none⟩) 1 1) (.slice (some ⟨w4.heap.size + 1, 0, none⟩) 0 0)
    simp (disch := first | omega | (simp <;> omega)) only [World.setCell_alloc_past, List.map_nil, List.map_cons, List.length_nil, List.length_cons, Nat.zero_add] at t1 t2 t3
    exact bodyPost_ret (v := .agg #[.string a.name, .slice (some ⟨w4.heap.size, 0, none⟩) 1 1, .slice (some ⟨w4.heap.size + 1, 0, none⟩) 0 0]) (by simp [results, Tryd.results135, go_sem, r0, r1, r2, rl, xl, hrx]) rfl
      ⟨⟨a.name, [9998], []⟩, _, _, _, _, _, _, rfl, t1, ⟨HT.out.1, (by simp), (by simp), (by simp)⟩, t2, t3⟩
  · have h0 : (x == 0) = false := beq_eq_false_iff_ne.2 (by omega)
    have h1 : (x == 1) = false := beq_eq_false_iff_ne.2 (by omega)
    have h2 : (x == 2) = false := beq_eq_false_iff_ne.2 (by omega)
    have h3 : (x == 3) = false := beq_eq_false_iff_ne.2 (by omega)
    have h4 : (x == 4) = false := beq_eq_false_iff_ne.2 (by omega)
    obtain ⟨x0, x1, x2, f0, f1, f2, xl⟩ := HS.out.box
    obtain ⟨r0, r1, r2, i0, i1, i2, rl⟩ := HS.out.res
    have HSZ := hide HS.out.only.size
    go_wp2
    obtain ⟨t1, t2, t3⟩ := (HS.out).fin (.string a.name) (.slice D1 n1 m1) (.slice D2 n2 m2)
    exact bodyPost_ret (v := .agg #[.string a.name, .slice D1 n1 m1, .slice D2 n2 m2]) (by simp [results, Tryd.results135, go_sem, r0, r1, r2, rl, xl, hrx]) rfl
      ⟨a, _, _, _, _, _, _, rfl, t1, HT.out, t2, t3⟩
end Go.Proofs.YtohodehmidbmlaaDoor
namespace Go.Proofs.YtohodehmidbmlaaDoor
open Go.RowKit
set_option maxRecDepth 100000

/-- The result's box r, the schema's box x, its rows, the cursor b. -/
structure SState (w : World) (b r x : Nat) (W : World) (A : Option Addr) (n c : Nat) (D : Option Addr) (m k : Nat) (rr : Nat → Row) (d : SchemaD) : Prop where
  ord : b < w.heap.size ∧ w.heap.size ≤ r ∧ w.heap.size ≤ x ∧ r ≠ x
  res : BoxW W r (.slice none 0 0) (.slice none 0 0)
  box : BoxW W x (.slice A n c) (.slice D m k)
  sch : SchP w.heap.size W A n c D m k rr d
  ap1 : ∀ j, has (1 + 2 * n) rr j → j ≠ x ∧ j ≠ r
  ap2 : ∀ j, Value.ownBlock (.slice D m k) = some j → j ≠ x ∧ j ≠ r
  cur : Cur W b
  only : Only (· = b) w W
section
variable {w W W2 : World} {b r x : Nat} {A D : Option Addr} {n c m k : Nat} {rr : Nat → Row} {d : SchemaD}
theorem SState.draw (h : SState w b r x W A n c D m k rr d) (hC : Cur W2 b) (ho : Only (· = b) W W2) : SState w b r x W2 A n c D m k rr d := by
  have ho' := h.ord
  exact ⟨h.ord, h.res.only ho (by omega), h.box.only ho (by omega), h.sch.only ho (fun k e => by omega), h.ap1, h.ap2, hC, h.only.trans ho⟩
theorem SState.keep (h : SState w b r x W A n c D m k rr d) (hb : Below W.heap.size W W2) : SState w b r x W2 A n c D m k rr d :=
  ⟨h.ord, h.res.keep hb, h.box.keep hb, h.sch.below hb, h.ap1, h.ap2, h.cur.keep hb, h.only.trans (Only.of_below hb)⟩
/-- What stays when a row is written or laid anew. -/
def SKept (w : World) (b r x : Nat) (w9 : World) (A : Option Addr) (n c : Nat) (D : Option Addr) (m k : Nat) : Prop :=
  BoxW w9 r (.slice none 0 0) (.slice none 0 0) ∧ BoxW w9 x (.slice A n c) (.slice D m k) ∧ Cur w9 b ∧ Only (· = b) w w9
theorem SState.outer (h : SState w b r x W A n c D m k rr d) : W.ownsRow w.heap.size 64 3 (.slice A n c) n (rr 0).xs := h.sch.to.outer h.sch.bag (by omega)
theorem SState.blk0 (h : SState w b r x W A n c D m k rr d) {j : Nat} (hj : Value.ownBlock (.slice A n c) = some j) : has (1 + 2 * n) rr j := by
  refine ⟨0, by omega, ?_⟩
  unfold Row.blk
  rw [h.sch.to.head.2.2.1]
  exact hj
theorem SState.turn1 {w9 : World} (h : SState w b r x W A n c D m k rr d) (hb : Below w.heap.size W w9) (hg : W.grownBy w9 (Value.ownBlock (.slice A n c))) : SKept w b r x w9 A n c D m k := by
  have hs : Only (fun j => Value.ownBlock (.slice A n c) = some j) W w9 := Only.of_grown hg fun k hk => hk
  exact ⟨h.res.only hs (fun e => (h.ap1 _ (h.blk0 e)).2 rfl), h.box.only hs (fun e => (h.ap1 _ (h.blk0 e)).1 rfl), Cur.low h.cur h.ord.1 hb, h.only.low hb⟩
theorem SState.turn2 {w9 : World} (h : SState w b r x W A n c D m k rr d) (hb : Below w.heap.size W w9) (hg : W.grownBy w9 (Value.ownBlock (.slice D m k))) : SKept w b r x w9 A n c D m k := by
  have hs : Only (fun j => Value.ownBlock (.slice D m k) = some j) W w9 := Only.of_grown hg fun k hk => hk
  exact ⟨h.res.only hs (fun e => (h.ap2 _ e).2 rfl), h.box.only hs (fun e => (h.ap2 _ e).1 rfl), Cur.low h.cur h.ord.1 hb, h.only.low hb⟩
theorem SState.put1 {w9 : World} {A' : Option Addr} {n' c' : Nat} {rr' : Nat → Row} {d' : SchemaD} (h0 : SState w b r x W A n c D m k rr d) (h : SKept w b r x w9 A n c D m k)
    (hS : SchP w.heap.size w9 A' n' c' D m k rr' d') (hap : ∀ j, has (1 + 2 * n') rr' j → j ≠ x ∧ j ≠ r) : SState w b r x (w9.setCell ⟨x, 0, none⟩ (.slice A' n' c')) A' n' c' D m k rr' d' := by
  have ho' := h0.ord
  have hs := only_set (w := w9) (p := ⟨x, 0, none⟩) (.slice A' n' c')
  have hlow : Below w.heap.size w9 (w9.setCell ⟨x, 0, none⟩ (.slice A' n' c')) := (Below.refl _ _).setCell (p := ⟨x, 0, none⟩) ho'.2.2.1 _
  exact ⟨ho', h.1.only hs (by show ¬ x = r; omega), h.2.1.set0 _,
    ⟨hS.bag.only hs (fun j hj e => (hap j hj).1 (Eq.symm e)), hS.to, own_only hS.cls hs (fun j hj e => (h0.ap2 j hj).1 (Eq.symm e)), hS.sep, hS.b1, hS.b2, hS.s1, hS.s2⟩, hap, h0.ap2, Cur.low h.2.2.1 ho'.1 hlow, h.2.2.2.low hlow⟩
theorem SState.put2 {w9 : World} {D' : Option Addr} {m' k' : Nat} {d' : SchemaD} (h0 : SState w b r x W A n c D m k rr d) (h : SKept w b r x w9 A n c D m k)
    (hS : SchP w.heap.size w9 A n c D' m' k' rr d') (hap : ∀ j, Value.ownBlock (.slice D' m' k') = some j → j ≠ x ∧ j ≠ r) : SState w b r x (w9.setCell ⟨x, 1, none⟩ (.slice D' m' k')) A n c D' m' k' rr d' := by
  have ho' := h0.ord
  have hs := only_set (w := w9) (p := ⟨x, 1, none⟩) (.slice D' m' k')
  have hlow : Below w.heap.size w9 (w9.setCell ⟨x, 1, none⟩ (.slice D' m' k')) := (Below.refl _ _).setCell (p := ⟨x, 1, none⟩) ho'.2.2.1 _
  exact ⟨ho', h.1.only hs (by show ¬ x = r; omega), h.2.1.set1 _,
    ⟨hS.bag.only hs (fun j hj e => (h0.ap1 j hj).1 (Eq.symm e)), hS.to, own_only hS.cls hs (fun j hj e => (hap j hj).1 (Eq.symm e)), hS.sep, hS.b1, hS.b2, hS.s1, hS.s2⟩, h0.ap1, hap, Cur.low h.2.2.1 ho'.1 hlow, h.2.2.2.low hlow⟩
/-- One class more. -/
theorem SState.word {w9 : World} {v : Value} {u : ByteArray} (h : SState w b r x W A n c D m k rr d) (hv : w9.ownsRow w.heap.size 9 1 v (m + 1) (d.classes.map Value.string ++ [.string u])) (hb : Below w.heap.size W w9)
    (hg : W.grownBy w9 (Value.ownBlock (.slice D m k))) (hnew : ∀ g, v.ownBlock = some g → Value.ownBlock (.slice D m k) = some g ∨ W.heap.size ≤ g) (hm : m + 1 ≤ 1048576) (hu : u.size ≤ 1048576) :
    ∃ D2 k2, v = .slice D2 (m + 1) k2 ∧ SState w b r x (w9.setCell ⟨x, 1, none⟩ v) A n c D2 (m + 1) k2 rr ⟨d.attrs, d.classes ++ [u]⟩ := by
  obtain ⟨D2, k2, rfl, hS⟩ := h.sch.word hv hg hnew hm hu
  refine ⟨D2, k2, rfl, h.put2 (h.turn2 hb hg) hS fun j hj => ?_⟩
  rcases hnew j hj with q | q
  · exact h.ap2 j q
  · have := h.box.lt; have := h.res.lt; omega
/-- The first class alone. -/
theorem SState.first (h : SState w b r x W A n c D m k rr d) (hm : 1 ≤ m) : SState w b r x (W.setCell ⟨x, 1, none⟩ (.slice D 1 k)) A n c D 1 k rr ⟨d.attrs, d.classes.take 1⟩ :=
  h.put2 ⟨h.res, h.box, h.cur, h.only⟩ (h.sch.first hm) fun j hj => h.ap2 j (by cases D <;> exact hj)
/-- No attributes. -/
theorem SState.noattr (h : SState w b r x W A n c D m k rr d) :
    ∃ rr', SState w b r x ((W.alloc (.cells #[] 64)).setCell ⟨x, 0, none⟩ (.slice (some ⟨W.heap.size, 0, none⟩) 0 0)) (some ⟨W.heap.size, 0, none⟩) 0 0 D m k rr' ⟨[], d.classes⟩ := by
  have hal : Below W.heap.size W (W.alloc (.cells #[] 64)) := (Below.refl _ _).alloc (Nat.le_refl _) _
  have hk := h.keep hal
  refine ⟨_, h.put1 ⟨hk.res, hk.box, hk.cur, hk.only⟩ (h.sch.none_ h.only.size) fun j hj => ?_⟩
  obtain ⟨i, -, e⟩ := hj
  have e2 : some W.heap.size = some j := e
  injection e2 with e2
  have := h.box.lt; have := h.res.lt; omega
/-- One attribute more. -/
theorem SState.attr {W6 w9 : World} {D1 D2 : Option Addr} {n1 m1 n2 m2 : Nat} {a : AttrD} {v : Value} (h0 : SState w b r x W A n c D m k rr d) (h : SState w b r x W6 A n c D m k rr d)
    (ho : Bag W.heap.size 2 W6 (attrRows D1 n1 m1 D2 n2 m2 a)) (hsz : W.heap.size ≤ W6.heap.size)
    (hv : w9.ownsRow w.heap.size 64 3 v (n + 1) ((rr 0).xs ++ [.string a.name, .slice D1 n1 m1, .slice D2 n2 m2])) (hb : Below w.heap.size W6 w9) (hg : W6.grownBy w9 (Value.ownBlock (.slice A n c)))
    (hnew : ∀ g, v.ownBlock = some g → Value.ownBlock (.slice A n c) = some g ∨ W6.heap.size ≤ g) (hn : n + 1 ≤ 1048576) (hs : attrSmall a) :
    ∃ A2 c2 r', v = .slice A2 (n + 1) c2 ∧ SState w b r x (w9.setCell ⟨x, 0, none⟩ v) A2 (n + 1) c2 D m k r' ⟨d.attrs ++ [a], d.classes⟩ := by
  obtain ⟨A2, c2, r', rfl, hS, hh⟩ := h.sch.attr ho h0.only.size hsz (fun j hj => (h0.sch.bag.lt hj).2) (fun g hg => (h0.sch.cls.lt g hg).2) hv hg hnew hn hs
  refine ⟨A2, c2, r', rfl, h.put1 (h.turn1 hb hg) hS fun j hj => ?_⟩
  rcases hh j hj with q | q
  · exact h.ap1 j q
  · have := h0.box.lt; have := h0.res.lt; omega
/-- The result written. -/
theorem SState.fin (h : SState w b r x W A n c D m k rr d) (u0 u1 : Value) : SchP w.heap.size ((W.setCell ⟨r, 0, none⟩ u0).setCell ⟨r, 1, none⟩ u1) A n c D m k rr d ∧
    Cur ((W.setCell ⟨r, 0, none⟩ u0).setCell ⟨r, 1, none⟩ u1) b ∧ Only (· = b) w ((W.setCell ⟨r, 0, none⟩ u0).setCell ⟨r, 1, none⟩ u1) := by
  have hs : Only (fun j => r = j) W ((W.setCell ⟨r, 0, none⟩ u0).setCell ⟨r, 1, none⟩ u1) := ((Only.refl _ W).setCell (p := ⟨r, 0, none⟩) rfl _).setCell (p := ⟨r, 1, none⟩) rfl _
  have hlow : Below w.heap.size W ((W.setCell ⟨r, 0, none⟩ u0).setCell ⟨r, 1, none⟩ u1) := ((Below.refl _ _).setCell (p := ⟨r, 0, none⟩) h.ord.2.1 _).setCell (p := ⟨r, 1, none⟩) h.ord.2.1 _
  exact ⟨⟨h.sch.bag.only hs (fun j hj e => (h.ap1 j hj).2 (Eq.symm e)), h.sch.to, own_only h.sch.cls hs (fun j hj e => (h.ap2 j hj).2 (Eq.symm e)), h.sch.sep, h.sch.b1, h.sch.b2, h.sch.s1, h.sch.s2⟩, Cur.low h.cur h.ord.1 hlow, h.only.low hlow⟩
end
end Go.Proofs.YtohodehmidbmlaaDoor
namespace Go.Proofs.YtohodehmidbmlaaDoor
open Go.RowKit
set_option maxRecDepth 100000
set_option linter.unusedSimpArgs false

def classL : List ByteArray := [⟨#[110, 111]⟩, ⟨#[121, 101, 115]⟩]
def badClass : List ByteArray := [⟨#[110, 111]⟩, ⟨#[111, 116, 104, 101, 114]⟩, ⟨#[]⟩]
theorem badClass_size : ∀ k, k < 3 → (badClass[k]?.getD ByteArray.empty).size ≤ 16 := by decide

set_option maxHeartbeats 4000000 in
theorem l5Right_any (b : Nat) (w : World) (h : Cur w b) :
    Calls Tryd.prog 134 #[.pointer (some ⟨b, 0, none⟩)] w fun e w' => ∃ A n c D m k rr d, e = .returned (.agg #[.slice A n c, .slice D m k]) ∧ SchP w.heap.size w' A n c D m k rr d ∧ n ≤ 5 ∧ 2 ≤ m ∧ m ≤ 3 ∧ Cur w' b ∧ Only (· = b) w w' := by
  have HC := hide h
  have hbw := h.lt
  clear h
  obtain ⟨W0, hW0⟩ : ∃ W, W = w.alloc (.cells #[.slice none 0 0, .slice none 0 0] 35) := ⟨_, rfl⟩
  have HZ0 := hide (show W0.heap.size = w.heap.size + 1 by rw [hW0]; simp)
  have hR0 := BoxW.new w (.slice none 0 0) (.slice none 0 0) 35
  rw [← hW0] at hR0
  have hal0 : Below w.heap.size w W0 := by rw [hW0]; exact (Below.refl _ _).alloc (Nat.le_refl _) _
  obtain ⟨V, hV⟩ : ∃ W, W = W0.alloc (.cells (classL.map Value.string).toArray 9) := ⟨_, rfl⟩
  have hcls := own_lit (B := w.heap.size) (e := 9) W0 (classL.map Value.string) (by have := HZ0.out; omega) (by decide)
  have hal1 : Below W0.heap.size W0 V := by rw [hV]; exact (Below.refl _ _).alloc (Nat.le_refl _) _
  have HZ1 := hide (show V.heap.size = w.heap.size + 1 + 1 by rw [hV]; simp [HZ0.out])
  rw [← hV, HZ0.out] at hcls
  obtain ⟨W1, hW1⟩ : ∃ W, W = V.alloc (.cells #[.slice none 0 0, .slice (some ⟨w.heap.size + 1, 0, none⟩) 2 2] 35) := ⟨_, rfl⟩
  have hal2 : Below V.heap.size V W1 := by rw [hW1]; exact (Below.refl _ _).alloc (Nat.le_refl _) _
  have hX := BoxW.new V (.slice none 0 0) (.slice (some ⟨w.heap.size + 1, 0, none⟩) 2 2) 35
  rw [← hW1, HZ1.out] at hX
  have hsch : SchP w.heap.size W1 none 0 0 (some ⟨w.heap.size + 1, 0, none⟩) 2 2 (fun _ => ⟨64, 3, .slice none 0 0, 0, []⟩) ⟨[], classL⟩ :=
    ⟨Bag.one (s := ⟨64, 3, .slice none 0 0, 0, []⟩) (World.ownsRow_nil _ _ _ _), ⟨rfl, ⟨rfl, rfl, rfl, rfl⟩, fun i hi => by omega⟩, own_below hcls hal2, (fun g _ hr => by
      obtain ⟨i, -, e⟩ := hr
      cases e), by omega, by omega, by simp, by decide⟩
  have hal : Below w.heap.size w W1 := bthen hal0 (bthen hal1 hal2)
  have HS := hide (show SState w b w.heap.size (w.heap.size + 1 + 1) W1 none 0 0 (some ⟨w.heap.size + 1, 0, none⟩) 2 2 (fun _ => ⟨64, 3, .slice none 0 0, 0, []⟩) ⟨[], classL⟩ from
    ⟨by omega, hR0.keep (bthen hal1 hal2), hX, hsch, (fun j hj => by obtain ⟨i, -, e⟩ := hj; cases e), (fun j hj => by have e : some (w.heap.size + 1) = some j := hj; injection e with e; omega), HC.out.keep hal, Only.of_below hal⟩)
  have hWE : W1 = ((w.alloc (.cells #[.slice none 0 0, .slice none 0 0] 35)).alloc (.cells #[.string ⟨#[110, 111]⟩, .string ⟨#[121, 101, 115]⟩] 9)).alloc (.cells #[.slice none 0 0, .slice (some ⟨w.heap.size + 1, 0, none⟩) 2 2] 35) := by
    rw [hW1, hV, hW0]; rfl
  have HW := hide hWE
  clear hWE hsch hX hcls hal0 hal1 hal2 hal hR0 hW0 hW1 hV HZ0 HZ1 HC
  go_enter Tryd.func134, Tryd.ntmps134
  go_wp2_with (fail)
  rw [← HW.out]
  refine (l1Once_any b 3 _ HS.out.cur (by omega)).mono ?_
  rintro e wr ⟨x, rfl, hC2, ho2⟩
  replace HS := hide (HS.out.draw hC2 ho2)
  clear ho2 hC2 HW
  have hst : ∀ x : Bool, x = x := fun _ => rfl
  cases x
  · obtain ⟨D, m, k, rr, d, hS, hm2, hm3⟩ : ∃ D m k rr d, SState w b w.heap.size (w.heap.size + 1 + 1) wr none 0 0 D m k rr d ∧ 2 ≤ m ∧ m ≤ 3 := ⟨_, _, _, _, _, HS.out, by omega, by omega⟩
    clear HS
    have HS := hide hS
    clear hS
    go_wp2_with (fail)
    refine (l1Below_any b 5 _ HS.out.cur (by omega)).mono ?_
    rintro e w3 ⟨x, rfl, hx0, hx1, -, hC3, ho3⟩
    replace HS := hide (HS.out.draw hC3 ho3)
    clear hC3 ho3
    obtain ⟨N, hN, hN4⟩ : ∃ N : Nat, 1 + x = N ∧ N ≤ 5 := ⟨(1 + x).toNat, by omega, by have := hx1 (by omega); omega⟩
    clear hx0 hx1
    go_wp2
    go_loopw [5] (fun j W => ∃ K : Nat, K ≤ N ∧ j = .int .i64 K ∧ (∃ A c rr d, SState w b w.heap.size (w.heap.size + 1 + 1) W A K c D m k rr d)) (fun j _ => N - (intOf j).toNat)
    case atStart => exact ⟨0, Nat.zero_le _, rfl, none, 0, rr, d, HS.out⟩
    case round =>
      clear HS
      obtain ⟨K, hk, rfl, ⟨A, c, rr, d, hS⟩⟩ := hrel
      have HS := hide hS
      clear hS
      by_cases hlt : K < N
      · obtain ⟨x0, x1, f0, f1, xl⟩ := HS.out.box
        have HSD := hide (HS.out.keep ((Below.refl _ _).drew))
        go_wp2
        go_region_law (first
      | (go_simp; go_at_call 150; refine (l5RightAttr_any b K _ HSD.out.cur (by omega)).mono ?_; rintro e w5 ⟨a, D1, n1, m1, D2, n2, m2, rfl, hbag5, hnm, hvs, hn1, hn2, -, hC3, ho3⟩; have HS5 := hide (HSD.out.draw hC3 ho3); have HB5 := hide hbag5; obtain ⟨y0, y1, g0, g1, yl⟩ := HS5.out.box; have HSZ5 := hide HS5.out.only.size; have HWZ := hide (show wr.heap.size ≤ w5.heap.size from ho3.size); have HAS := hide (show attrSmall a from ⟨by omega, fun s hs => by have := hvs s hs; omega, by have := (ints_of (attr_own1 hbag5)).1; omega, by have := (strs_of (attr_own2 hbag5)).1; omega⟩); clear hC3 ho3 hbag5)
      | (refine step_append_src _ rfl (.tmp 24) (.tmp 28) 33 rfl w.heap.size 64 (.agg #[.string ⟨#[]⟩, .slice none 0 0, .slice none 0 0]) 3 64 Tryd.underlying33 infoA rfl (by decide) (.slice A K c) K (rr 0).xs [.string a.name, .slice D1 n1 m1, .slice D2 n2 m2] rfl ((HS5.out.outer).alloc _) _ 1 1 rfl rfl (new_cells rfl _ _) (by simp [Value.oneCell']) (by unfold maxLen; omega) (by omega) (by have := HSZ5.out; simp; omega) ?_; intro v' w9 hown9 hb9 hg9 hn9; obtain ⟨D9, m9, rfl⟩ := own_shape hown9; obtain ⟨z0, z1, i0, i1, zl⟩ := ((HS5.out.keep ((Below.refl _ _).alloc (Nat.le_refl _) _)).turn1 hb9 hg9).2.1))
        all_goals
          obtain ⟨A9, c9, r9, e9, hS9⟩ := SState.attr HS.out (HS5.out.keep ((Below.refl _ _).alloc (Nat.le_refl _) _)) (HB5.out.below ((Below.refl _ _).alloc (Nat.le_refl _) _)) (by simp; exact Nat.le_succ_of_le HWZ.out) hown9 hb9 hg9 hn9 (by omega) HAS.out
          injection e9 with e91 _ e92
          subst e91 e92
          have HS9 := hide hS9
          clear hS9 hown9 hb9 hg9 hn9 x0 x1 f0 f1 xl y0 y1 g0 g1 yl z0 z1 i0 i1 zl HSZ5 HSD HS HS5 HB5
          go_wp2
          exact ⟨⟨K + 1, by omega, by go_num, ⟨D9, m9, _, _, HS9.out⟩⟩, by simp [intOf]; omega⟩
      · obtain rfl : N = K := by omega
        obtain ⟨x0, x1, f0, f1, xl⟩ := HS.out.box
        obtain ⟨r0, r1, g0, g1, rl⟩ := HS.out.res
        go_wp2
        obtain ⟨t1, t2, t3⟩ := HS.out.fin (.slice A N c) (.slice D m k)
        exact bodyPost_ret (v := .agg #[.slice A N c, .slice D m k]) (by simp [results, Tryd.results134, go_sem, r0, r1]) rfl
          ⟨A, N, c, D, m, k, rr, d, rfl, t1, by omega, hm2, hm3, t2, t3⟩
  · obtain ⟨x0, x1, f0, f1, xl⟩ := HS.out.box
    have HSZ := hide HS.out.only.size
    go_wp2_with (at_builtin; go_must (refine wpList_append_one wr rfl _ _ 23 rfl w.heap.size 9 (.string ⟨#[]⟩) 1 16 Tryd.underlying23 infoS rfl (by decide) _ 2 _ [.string ⟨#[112, 101, 114, 104, 97, 112, 115]⟩] rfl HS.out.sch.cls _ rfl rfl (by simp [Value.oneCell']) rfl (by unfold maxLen; omega) (by omega) HSZ.out ?_); intro v' w9 hown9 hb9 hn9 hg9; obtain ⟨D9, m9, rfl⟩ := own_shape hown9; obtain ⟨y0, y1, g0, g1, yl⟩ := (HS.out.turn2 hb9 hg9).2.1)
    obtain ⟨A9, c9, e9, hS9⟩ := HS.out.word hown9 hb9 hg9 hn9 (by omega) (by decide)
    injection e9 with e91 _ e92
    subst e91 e92
    obtain ⟨D, m, k, rr, d, hS, hm2, hm3⟩ : ∃ D m k rr d, SState w b w.heap.size (w.heap.size + 1 + 1) (w9.setCell ⟨w.heap.size + 1 + 1, 1, none⟩ (.slice D9 (2 + 1) m9)) none 0 0 D m k rr d ∧ 2 ≤ m ∧ m ≤ 3 := ⟨_, _, _, _, _, hS9, by omega, by omega⟩
    clear HS
    have HS := hide hS
    clear hS hS9 hown9 hb9 hg9 hn9 x0 x1 f0 f1 xl y0 y1 g0 g1 yl HSZ
    refine (l1Below_any b 5 _ HS.out.cur (by omega)).mono ?_
    rintro e w3 ⟨x, rfl, hx0, hx1, -, hC3, ho3⟩
    replace HS := hide (HS.out.draw hC3 ho3)
    clear hC3 ho3
    obtain ⟨N, hN, hN4⟩ : ∃ N : Nat, 1 + x = N ∧ N ≤ 5 := ⟨(1 + x).toNat, by omega, by have := hx1 (by omega); omega⟩
    clear hx0 hx1
    go_wp2
    go_loopw [5] (fun j W => ∃ K : Nat, K ≤ N ∧ j = .int .i64 K ∧ (∃ A c rr d, SState w b w.heap.size (w.heap.size + 1 + 1) W A K c D m k rr d)) (fun j _ => N - (intOf j).toNat)
    case atStart => exact ⟨0, Nat.zero_le _, rfl, none, 0, rr, d, HS.out⟩
    case round =>
      clear HS
      obtain ⟨K, hk, rfl, ⟨A, c, rr, d, hS⟩⟩ := hrel
      have HS := hide hS
      clear hS
      by_cases hlt : K < N
      · obtain ⟨x0, x1, f0, f1, xl⟩ := HS.out.box
        have HSD := hide (HS.out.keep ((Below.refl _ _).drew))
        go_wp2
        go_region_law (first
      | (go_simp; go_at_call 150; refine (l5RightAttr_any b K _ HSD.out.cur (by omega)).mono ?_; rintro e w5 ⟨a, D1, n1, m1, D2, n2, m2, rfl, hbag5, hnm, hvs, hn1, hn2, -, hC3, ho3⟩; have HS5 := hide (HSD.out.draw hC3 ho3); have HB5 := hide hbag5; obtain ⟨y0, y1, g0, g1, yl⟩ := HS5.out.box; have HSZ5 := hide HS5.out.only.size; have HWZ := hide (show wr.heap.size ≤ w5.heap.size from ho3.size); have HAS := hide (show attrSmall a from ⟨by omega, fun s hs => by have := hvs s hs; omega, by have := (ints_of (attr_own1 hbag5)).1; omega, by have := (strs_of (attr_own2 hbag5)).1; omega⟩); clear hC3 ho3 hbag5)
      | (refine step_append_src _ rfl (.tmp 24) (.tmp 28) 33 rfl w.heap.size 64 (.agg #[.string ⟨#[]⟩, .slice none 0 0, .slice none 0 0]) 3 64 Tryd.underlying33 infoA rfl (by decide) (.slice A K c) K (rr 0).xs [.string a.name, .slice D1 n1 m1, .slice D2 n2 m2] rfl ((HS5.out.outer).alloc _) _ 1 1 rfl rfl (new_cells rfl _ _) (by simp [Value.oneCell']) (by unfold maxLen; omega) (by omega) (by have := HSZ5.out; simp; omega) ?_; intro v' w9 hown9 hb9 hg9 hn9; obtain ⟨D9, m9, rfl⟩ := own_shape hown9; obtain ⟨z0, z1, i0, i1, zl⟩ := ((HS5.out.keep ((Below.refl _ _).alloc (Nat.le_refl _) _)).turn1 hb9 hg9).2.1))
        all_goals
          obtain ⟨A9, c9, r9, e9, hS9⟩ := SState.attr HS.out (HS5.out.keep ((Below.refl _ _).alloc (Nat.le_refl _) _)) (HB5.out.below ((Below.refl _ _).alloc (Nat.le_refl _) _)) (by simp; exact Nat.le_succ_of_le HWZ.out) hown9 hb9 hg9 hn9 (by omega) HAS.out
          injection e9 with e91 _ e92
          subst e91 e92
          have HS9 := hide hS9
          clear hS9 hown9 hb9 hg9 hn9 x0 x1 f0 f1 xl y0 y1 g0 g1 yl z0 z1 i0 i1 zl HSZ5 HSD HS HS5 HB5
          go_wp2
          exact ⟨⟨K + 1, by omega, by go_num, ⟨D9, m9, _, _, HS9.out⟩⟩, by simp [intOf]; omega⟩
      · obtain rfl : N = K := by omega
        obtain ⟨x0, x1, f0, f1, xl⟩ := HS.out.box
        obtain ⟨r0, r1, g0, g1, rl⟩ := HS.out.res
        go_wp2
        obtain ⟨t1, t2, t3⟩ := HS.out.fin (.slice A N c) (.slice D m k)
        exact bodyPost_ret (v := .agg #[.slice A N c, .slice D m k]) (by simp [results, Tryd.results134, go_sem, r0, r1]) rfl
          ⟨A, N, c, D, m, k, rr, d, rfl, t1, by omega, hm2, hm3, t2, t3⟩


set_option maxHeartbeats 4000000 in
theorem l5Draw_any (b : Nat) (w : World) (h : Cur w b) :
    Calls Tryd.prog 98 #[.pointer (some ⟨b, 0, none⟩)] w fun e w' => ∃ x0 x1, e = .returned (.agg #[x0, x1]) ∧ (∃ d, SchemaO w.heap.size w'.heap.size w' x0 x1 d ∧ d.attrs.length ≤ 6) ∧ Cur w' b ∧ Only (· = b) w w' := by
  have hbw := h.lt
  have hR := BoxW.new w (.slice none 0 0) (.slice none 0 0) 35
  have hal : Below w.heap.size w (w.alloc (.cells #[.slice none 0 0, .slice none 0 0] 35)) := (Below.refl _ _).alloc (Nat.le_refl _) _
  have HC := hide (h.keep hal)
  clear h
  obtain ⟨W0, hW0⟩ : ∃ W, W = w.alloc (.cells #[.slice none 0 0, .slice none 0 0] 35) := ⟨_, rfl⟩
  have HZ0 := hide (show W0.heap.size = w.heap.size + 1 by rw [hW0]; simp)
  rw [← hW0] at hR hal HC
  have HW := hide hW0
  clear hW0
  go_enter Tryd.func98, Tryd.ntmps98
  go_wp2_with (fail)
  rw [← HW.out]
  refine (l5Right_any b _ HC.out).mono ?_
  rintro e w3 ⟨A, n, c, D, m, k, rr, d, rfl, hsch, hn, hm2, hm3, hC3, ho3⟩
  have hz3 : w.heap.size + 1 ≤ w3.heap.size := by rw [← HZ0.out]; exact ho3.size
  have hz0 := HZ0.out
  obtain ⟨W1, hW1⟩ : ∃ W, W = w3.alloc (.cells #[.slice A n c, .slice D m k] 35) := ⟨_, rfl⟩
  have hal1 : Below w3.heap.size w3 W1 := by rw [hW1]; exact (Below.refl _ _).alloc (Nat.le_refl _) _
  have hX := BoxW.new w3 (.slice A n c) (.slice D m k) 35
  rw [← hW1] at hX
  have HS := hide (show SState w b w.heap.size w3.heap.size W1 A n c D m k rr d from
    ⟨by omega, (hR.only ho3 (by omega)).keep hal1, hX, (hsch.mono (by omega)).below hal1,
      fun j hj => by have := hsch.bag.lt hj; omega, fun j hj => by have := hsch.cls.lt j hj; omega, hC3.keep hal1, ((Only.of_below (S := (· = b)) hal).trans ho3).trans (Only.of_below hal1)⟩)
  have HW1 := hide hW1
  have hrx : w.heap.size < w3.heap.size := by omega
  clear hsch hC3 ho3 hal1 hX hW1 hR hal HC HZ0 HW hz3 hz0
  go_wp2_with (fail)
  rw [← HW1.out]
  clear HW1
  refine (l1Below_any b 12 _ HS.out.cur (by omega)).mono ?_
  rintro e w4 ⟨x, rfl, hx0, -, -, hC3, ho3⟩
  replace HS := hide (HS.out.draw hC3 ho3)
  clear hC3 ho3
  rcases (show x = 0 ∨ x = 1 ∨ x = 2 ∨ x = 3 ∨ 4 ≤ x by omega) with rfl | rfl | rfl | rfl | hx5
  · obtain ⟨x0, x1, f0, f1, xl⟩ := HS.out.box
    have HSD := hide (HS.out.keep ((Below.refl _ _).drew))
    go_wp2
    go_region_law (first
      | (go_simp; go_at_call 135; refine (l5DrawAttr_any b _ HSD.out.cur).mono ?_; rintro e w5 ⟨a, D1, n1, m1, D2, n2, m2, rfl, hbag5, htiny, hC3, ho3⟩; have HS5 := hide (HSD.out.draw hC3 ho3); have HB5 := hide hbag5; obtain ⟨y0, y1, g0, g1, yl⟩ := HS5.out.box; have HSZ5 := hide HS5.out.only.size; have HWZ := hide (show w4.heap.size ≤ w5.heap.size from ho3.size); have HAS := hide (show attrSmall a from htiny.small); clear hC3 ho3 hbag5)
      | (refine step_append_src _ rfl (.tmp 11) (.tmp 14) 33 rfl w.heap.size 64 (.agg #[.string ⟨#[]⟩, .slice none 0 0, .slice none 0 0]) 3 64 Tryd.underlying33 infoA rfl (by decide) (.slice A n c) n (rr 0).xs [.string a.name, .slice D1 n1 m1, .slice D2 n2 m2] rfl ((HS5.out.outer).alloc _) _ 1 1 rfl rfl (new_cells rfl _ _) (by simp [Value.oneCell']) (by unfold maxLen; omega) (by omega) (by have := HSZ5.out; simp; omega) ?_; intro v' w9 hown9 hb9 hg9 hn9; obtain ⟨D9, m9, rfl⟩ := own_shape hown9; obtain ⟨z0, z1, i0, i1, zl⟩ := ((HS5.out.keep ((Below.refl _ _).alloc (Nat.le_refl _) _)).turn1 hb9 hg9).2.1))
    all_goals
      obtain ⟨A9, c9, r9, e9, hS9⟩ := SState.attr HS.out (HS5.out.keep ((Below.refl _ _).alloc (Nat.le_refl _) _)) (HB5.out.below ((Below.refl _ _).alloc (Nat.le_refl _) _)) (by simp; exact Nat.le_succ_of_le HWZ.out) hown9 hb9 hg9 hn9 (by omega) HAS.out
      injection e9 with e91 _ e92
      subst e91 e92
      clear HS
      have HS := hide hS9
      clear hS9 hown9 hb9 hg9 hn9 x0 x1 f0 f1 xl y0 y1 g0 g1 yl z0 z1 i0 i1 zl HSZ5 HSD HS5 HB5
      obtain ⟨x0, x1, f0, f1, xl⟩ := HS.out.box
      obtain ⟨r0, r1, h0, h1, rl⟩ := HS.out.res
      go_wp2
      obtain ⟨t1, t2, t3⟩ := (HS.out).fin (.slice D9 (n + 1) m9) (.slice D m k)
      exact bodyPost_ret (v := .agg #[.slice D9 (n + 1) m9, .slice D m k]) (by simp [results, Tryd.results98, go_sem, r0, r1]) rfl
          ⟨_, _, rfl, ⟨_, t1.o, Nat.le_trans (Nat.le_of_eq t1.to.len.symm) (by omega)⟩, t2, t3⟩
  · obtain ⟨x0, x1, f0, f1, xl⟩ := HS.out.box
    have hal := hide (fun o1 => (((Below.refl w4.heap.size w4).alloc (Nat.le_refl _) o1).drew : Below w4.heap.size w4 (w4.alloc o1).drew))
    go_wp2
    go_region_law (first
      | (go_simp; go_at_call 100; refine (l1Pick_any b (some ⟨w4.heap.size, 0, none⟩) 3 3 badClass _ (HS.out.cur.keep (hal.out _)) (strs_lit w4 badClass _) (fun _ => lit_apart HS.out.cur) (by omega) (by omega)).mono ?_; rintro e w5 ⟨q, hq, rfl, hC3, ho3⟩; obtain ⟨u, hu, hus⟩ : ∃ u, badClass[q]?.getD ByteArray.empty = u ∧ u.size ≤ 16 := ⟨_, rfl, badClass_size q hq⟩; rw [hu]; have HUS := hide hus; have HS5 := hide ((HS.out.keep (hal.out _)).draw hC3 ho3); obtain ⟨y0, y1, g0, g1, yl⟩ := HS5.out.box; have HSZ5 := hide HS5.out.only.size; clear hC3 ho3 hu hq hus)
      | (refine step_append_src _ rfl (.tmp 20) (.tmp 24) 23 rfl w.heap.size 9 (.string ⟨#[]⟩) 1 16 Tryd.underlying23 infoS rfl (by decide) (.slice D m k) m (d.classes.map Value.string) [.string u] rfl (HS5.out.sch.cls.alloc _) _ 1 1 rfl rfl (new_cells rfl _ _) (by simp [Value.oneCell']) (by unfold maxLen; omega) (by omega) (by have := HSZ5.out; simp; omega) ?_; intro v' w9 hown9 hb9 hg9 hn9; obtain ⟨D9, m9, rfl⟩ := own_shape hown9; obtain ⟨z0, z1, i0, i1, zl⟩ := ((HS5.out.keep ((Below.refl _ _).alloc (Nat.le_refl _) _)).turn2 hb9 hg9).2.1))
    all_goals
      obtain ⟨A9, c9, e9, hS9⟩ := (HS5.out.keep ((Below.refl _ _).alloc (Nat.le_refl _) _)).word hown9 hb9 hg9 hn9 (by omega) (by have := HUS.out; omega)
      injection e9 with e91 _ e92
      subst e91 e92
      clear HS
      have HS := hide hS9
      clear hS9 hown9 hb9 hg9 hn9 x0 x1 f0 f1 xl y0 y1 g0 g1 yl z0 z1 i0 i1 zl HSZ5 HS5 hal
      obtain ⟨x0, x1, f0, f1, xl⟩ := HS.out.box
      obtain ⟨r0, r1, h0, h1, rl⟩ := HS.out.res
      go_wp2
      obtain ⟨t1, t2, t3⟩ := (HS.out).fin (.slice A n c) (.slice D9 (m + 1) m9)
      exact bodyPost_ret (v := .agg #[.slice A n c, .slice D9 (m + 1) m9]) (by simp [results, Tryd.results98, go_sem, r0, r1]) rfl
          ⟨_, _, rfl, ⟨_, t1.o, Nat.le_trans (Nat.le_of_eq t1.to.len.symm) (by omega)⟩, t2, t3⟩
  · 
    obtain ⟨x0, x1, f0, f1, xl⟩ := HS.out.box
    obtain ⟨r0, r1, h0, h1, rl⟩ := HS.out.res
    obtain ⟨rr', hS⟩ := HS.out.noattr
    go_wp2
    obtain ⟨t1, t2, t3⟩ := (hS).fin (.slice (some ⟨w4.heap.size, 0, none⟩) 0 0) (.slice D m k)
    simp (disch := first | omega | (simp <;> omega)) only [World.setCell_alloc_past] at t1 t2 t3
    exact bodyPost_ret (v := .agg #[.slice (some ⟨w4.heap.size, 0, none⟩) 0 0, .slice D m k]) (by simp [results, Tryd.results98, go_sem, r0, r1, rl, xl, hrx]) rfl
          ⟨_, _, rfl, ⟨_, t1.o, Nat.le_trans (Nat.le_of_eq t1.to.len.symm) (by omega)⟩, t2, t3⟩
  · 
    obtain ⟨x0, x1, f0, f1, xl⟩ := HS.out.box
    obtain ⟨r0, r1, h0, h1, rl⟩ := HS.out.res
    have hm1 : (1 : Int) ≤ k := by have := own_cap HS.out.sch.cls; omega
    go_wp2
    obtain ⟨t1, t2, t3⟩ := (HS.out.first (by omega)).fin (.slice A n c) (.slice D 1 k)
    exact bodyPost_ret (v := .agg #[.slice A n c, .slice D 1 k]) (by simp [results, Tryd.results98, go_sem, r0, r1]) rfl
          ⟨_, _, rfl, ⟨_, t1.o, Nat.le_trans (Nat.le_of_eq t1.to.len.symm) (by omega)⟩, t2, t3⟩
  · have h0' : (x == 0) = false := beq_eq_false_iff_ne.2 (by omega)
    have h1' : (x == 1) = false := beq_eq_false_iff_ne.2 (by omega)
    have h2' : (x == 2) = false := beq_eq_false_iff_ne.2 (by omega)
    have h3' : (x == 3) = false := beq_eq_false_iff_ne.2 (by omega)
    obtain ⟨x0, x1, f0, f1, xl⟩ := HS.out.box
    obtain ⟨r0, r1, h0, h1, rl⟩ := HS.out.res
    go_wp2
    obtain ⟨t1, t2, t3⟩ := (HS.out).fin (.slice A n c) (.slice D m k)
    exact bodyPost_ret (v := .agg #[.slice A n c, .slice D m k]) (by simp [results, Tryd.results98, go_sem, r0, r1]) rfl
          ⟨_, _, rfl, ⟨_, t1.o, Nat.le_trans (Nat.le_of_eq t1.to.len.symm) (by omega)⟩, t2, t3⟩
end Go.Proofs.YtohodehmidbmlaaDoor
namespace Go.Proofs.YtohodehmidbmlaaDoor
open Go.RowKit
set_option maxRecDepth 100000
set_option linter.unusedSimpArgs false

/-- An example held in a box after a call that drew it. -/
theorem estate_call {w W0 W1 W3 : World} {s0 s1 : Value} (h : RPre w s0 s1 W0 W1) {b : Nat} (hb : b < W0.heap.size) (hC : Cur W3 b) (ho : Only (· = b) W1 W3) {G : Option Addr} {n k : Nat} {l : List Int} (hown : W3.ownsRow W1.heap.size 3 1 (.slice G n k) n (l.map (Value.int .i64))) (cls : Int) (t : TypeId) :
    EState W0 (· = b) (w.heap.size + 1) W3.heap.size (W3.alloc (.cells #[.slice G n k, .int .i64 cls] t)) G n k l cls := by
  have hal : Below W3.heap.size W3 (W3.alloc (.cells #[.slice G n k, .int .i64 cls] t)) := (Below.refl _ _).alloc (Nat.le_refl _) _
  have hz := h.z
  have hrl := h.res.lt
  have hsz := ho.size
  have hsz1 := h.below.size
  have hr := h.res.only ho (by omega)
  refine ⟨⟨by omega, by omega, by omega⟩, fun j hj => by subst hj; exact hb, hr.keep hal, BoxW.new _ _ _ _, own_below (own_lower hown hsz1) hal, fun j hj => ?_, fun j hj => by subst hj; exact hC.keep hal, ((Only.of_below h.below).trans ho).trans (Only.of_below hal)⟩
  have := hown.lt j hj
  have := h.res.lt
  omega
theorem exO_of {B H n k : Nat} {w : World} {G : Option Addr} {l : List Int} {cls : Int} (h : w.ownsRow B 3 1 (.slice G n k) n (l.map (Value.int .i64))) (hn : n ≤ 1048576) (hH : w.heap.size ≤ H) (hc : -9223372036854775808 ≤ cls ∧ cls ≤ 9223372036854775807) :
    ExO B H w (.slice G n k) (.int .i64 cls) ⟨l, cls⟩ :=
  ⟨G, n, k, rfl, rfl, h, hn, fun j hj => by have := h.lt j hj; omega, cls_wf hc⟩
theorem schemaO_up {B B' H H' : Nat} {w : World} {x0 x1 : Value} {d : SchemaD} (h : SchemaO B H w x0 x1 d) (hB : B' ≤ B) (hH : H ≤ H') : SchemaO B' H' w x0 x1 d := by
  obtain ⟨A, n, c, D, m, k, r, h1, h2, h3, h4, h5, h6, h7, h8, h9, h10⟩ := h
  exact ⟨A, n, c, D, m, k, r, h1, h2, h3.mono hB, h4, h5, h6, h7, h8, h9, fun k hk => Nat.lt_of_lt_of_le (h10 k hk) hH⟩
theorem exO_up {B B' H H' : Nat} {w : World} {x0 x1 : Value} {d : ExD} (h : ExO B H w x0 x1 d) (hB : B' ≤ B) (hH : H ≤ H') : ExO B' H' w x0 x1 d := by
  obtain ⟨A, n, c, h1, h2, h3, h4, h5, h6⟩ := h
  exact ⟨A, n, c, h1, h2, own_lower h3 hB, h4, fun k hk => Nat.lt_of_lt_of_le (h5 k hk) hH, h6⟩
/-- Two results' boxes. -/
def Two (w W : World) : Prop := BoxW W w.heap.size (.slice none 0 0) (.slice none 0 0) ∧ BoxW W (w.heap.size + 1) (.slice none 0 0) (.int .i64 0) ∧ Below w.heap.size w W
theorem rpre_two (w : World) (t1 t2 : TypeId) : Two w ((w.alloc (.cells #[.slice none 0 0, .slice none 0 0] t1)).alloc (.cells #[.slice none 0 0, .int .i64 0] t2)) := by
  have h := rpre_start w (.slice none 0 0) (.slice none 0 0) t1 t2
  exact ⟨h.arg, h.res, h.b⟩
def pickC : List Int := [-1, -2, 3, 2, 9223372036854775807]
theorem pickC_bd : ∀ k, k < 5 → -9223372036854775808 ≤ pickC[k]?.getD 0 ∧ pickC[k]?.getD 0 ≤ 9223372036854775807 := by decide
def pickB : List Int := [-2, 4, 3, -1]


set_option maxHeartbeats 8000000 in
theorem l7Draw_any (b : Nat) (x0 x1 : Value) (d : SchemaD) (B : Nat) (w : World) (h : Cur w b) (hs : SchemaO B w.heap.size w x0 x1 d) (hB : b < B) (h6 : d.attrs.length ≤ 6) :
    Calls Tryd.prog 147 #[.pointer (some ⟨b, 0, none⟩), .agg #[x0, x1]] w fun e w' => ∃ y0 y1, e = .returned (.agg #[y0, y1]) ∧ (∃ E, ExO w.heap.size w'.heap.size w' y0 y1 E) ∧ Cur w' b ∧ Only (· = b) w w' := by
  have HSO := hide hs
  have hbw := h.lt
  obtain ⟨A, n, c, D, m, k, rfl, rfl, -, hn, -, -, hm, hmk⟩ := hs.m
  have hP := rpre_start w (.slice A n c) (.slice D m k) 35 30
  obtain ⟨W0, hW0⟩ : ∃ W, W = w.alloc (.cells #[.slice A n c, .slice D m k] 35) := ⟨_, rfl⟩
  rw [← hW0] at hP
  obtain ⟨W1, hW1⟩ : ∃ W, W = W0.alloc (.cells #[.slice none 0 0, .int .i64 0] 30) := ⟨_, rfl⟩
  rw [← hW1] at hP
  have HZ0 := hide hP.z
  have HAL0 := hide hP.b0
  have hC1 := hide (h.keep hP.b)
  have HSO1 := hide (show SchemaO B W1.heap.size W1 (.slice A n c) (.slice D m k) d from schemaO_up (HSO.out.below hP.b) (Nat.le_refl _) hP.b.size)
  have HP := hide hP
  have HW := hide (show W1 = (w.alloc (.cells #[.slice A n c, .slice D m k] 35)).alloc (.cells #[.slice none 0 0, .int .i64 0] 30) by rw [hW1, hW0])
  clear h hs hP hW0 hW1
  go_enter Tryd.func147, Tryd.ntmps147
  obtain ⟨x0, x1, f0, f1, xl⟩ := HP.out.arg
  rw [HW.out] at x0 x1 f0 f1 xl
  go_wp2_with (fail)
  rw [← HW.out]
  refine (l7Right_any b _ _ d B _ hC1.out HSO1.out hB).mono ?_
  rintro e w3 ⟨G, n1, c9, cls, rfl, ⟨l, hown, hdr⟩, ⟨-, hn1⟩, hC3, ho3⟩
  have HS := hide (estate_call HP.out (by have := HZ0.out; omega) hC3 ho3 hown cls 30)
  have hcb := hdr.2
  replace hn1 : n1 ≤ 6 := by omega
  have hrx : w.heap.size + 1 < w3.heap.size := Nat.lt_of_lt_of_le HP.out.res.lt ho3.size
  clear x0 x1 f0 f1 xl hC3 ho3 hown HW HSO1 hC1
  go_wp2_with (fail)
  refine (l1Below_any b 12 _ (HS.out.cur b rfl) (by omega)).mono ?_
  rintro e w4 ⟨q, rfl, hq0, -, -, hC4, ho4⟩
  replace HS := hide (HS.out.draw (fun j hj => by subst hj; exact hC4) ho4)
  clear hC4 ho4
  have hal := hide (fun o1 => ((Below.refl w4.heap.size w4).alloc (Nat.le_refl _) o1 : Below w4.heap.size w4 (w4.alloc o1)))
  rcases (show q = 0 ∨ q = 1 ∨ q = 2 ∨ 3 ≤ q by omega) with rfl | rfl | rfl | hq5
  · go_wp2_with (fail)
    refine (l1PickInt_any b (some ⟨w4.heap.size, 0, none⟩) 5 5 pickC _ ((HS.out.cur b rfl).keep (hal.out _)) (ints_lit w4 pickC _) (fun _ => lit_apart (HS.out.cur b rfl)) (by omega) (by omega)).mono ?_
    rintro e w5 ⟨j, hj, rfl, hC5, ho5⟩
    have hub := pickC_bd j hj
    generalize pickC[j]?.getD 0 = u at *
    have HS5 := hide ((HS.out.keep (hal.out _)).draw (fun j hj => by subst hj; exact hC5) ho5)
    have HS9 := hide (HS5.out.setCls u)
    clear hC5 ho5
    obtain ⟨y0, y1, q0, q1, yl⟩ := HS5.out.box
    obtain ⟨e0, e1, k0, k1, el⟩ := HS9.out.box
    obtain ⟨r0, r1, h0, h1, rl⟩ := HS9.out.res
    have HFIN := hide (HS9.out.fin (.slice G n1 c9) (.int .i64 u))
    go_wp2
    exact bodyPost_ret (v := .agg #[.slice G n1 c9, .int .i64 u]) (by simp [results, Tryd.results147, go_sem, r0, r1]) rfl
      ⟨_, _, rfl, ⟨_, exO_of (own_lower HFIN.out.1 (by have := HZ0.out; omega)) (by omega) (Nat.le_refl _) (by omega)⟩, HFIN.out.2.1 b rfl, (Only.of_below HAL0.out).trans HFIN.out.2.2⟩
  · have HSZ := hide (show W0.heap.size ≤ w4.heap.size from HS.out.only.size)
    obtain ⟨y0, y1, q0, q1, yl⟩ := HS.out.box
    go_wp2_with (at_builtin; go_must (refine wpList_append_one w4 rfl _ _ 28 rfl W0.heap.size 3 (.int .i64 0) 1 8 Tryd.underlying28 infoI rfl (by decide) _ n1 _ [.int .i64 0] rfl HS.out.own _ rfl rfl (by simp [Value.oneCell']) rfl (by unfold maxLen; omega) (by omega) HSZ.out ?_); intro v' w9 hown9 hb9 hn9 hg9; obtain ⟨D9, m9, rfl⟩ := own_shape hown9; obtain ⟨z0, z1, i0, i1, zl⟩ := (HS.out.turn hb9 hg9).2.1; obtain ⟨r0, r1, h0, h1, rl⟩ := (HS.out.turn hb9 hg9).1)
    have HS9 := hide (HS.out.item (G' := D9) (k' := m9) hown9 hb9 hg9 hn9)
    have HFIN := hide (HS9.out.fin (.slice D9 (n1 + 1) m9) (.int .i64 cls))
    exact bodyPost_ret (v := .agg #[.slice D9 (n1 + 1) m9, .int .i64 cls]) (by simp [results, Tryd.results147, go_sem, r0, r1]) rfl
      ⟨_, _, rfl, ⟨_, exO_of (own_lower HFIN.out.1 (by have := HZ0.out; omega)) (by omega) (Nat.le_refl _) (by omega)⟩, HFIN.out.2.1 b rfl, (Only.of_below HAL0.out).trans HFIN.out.2.2⟩
  · rcases Nat.eq_zero_or_pos n1 with hn0 | hn0
    · subst hn0
      obtain ⟨e0, e1, k0, k1, el⟩ := HS.out.box
      obtain ⟨r0, r1, h0, h1, rl⟩ := HS.out.res
      have HFIN := hide (HS.out.fin (.slice G 0 c9) (.int .i64 cls))
      go_wp2
      exact bodyPost_ret (v := .agg #[.slice G 0 c9, .int .i64 cls]) (by simp [results, Tryd.results147, go_sem, r0, r1]) rfl
        ⟨_, _, rfl, ⟨_, exO_of (own_lower HFIN.out.1 (by have := HZ0.out; omega)) (by omega) (Nat.le_refl _) (by omega)⟩, HFIN.out.2.1 b rfl, (Only.of_below HAL0.out).trans HFIN.out.2.2⟩
    · obtain ⟨g, rfl, hbk, hgl⟩ := own_form HS.out.own hn0
      have hn2 : (0 : Int) < n1 := by omega
      obtain ⟨y0, y1, q0, q1, yl⟩ := HS.out.box
      have HGX := hide (HS.out.ap g rfl)
      have hald := hide (fun o1 => (((Below.refl w4.heap.size w4).alloc (Nat.le_refl _) o1).drew : Below w4.heap.size w4 (w4.alloc o1).drew))
      go_wp2
      go_region_law (first
        | (go_simp; go_at_call 120; refine (l1PickInt_any b (some ⟨w4.heap.size, 0, none⟩) 4 4 pickB _ ((HS.out.cur b rfl).keep (hald.out _)) (ints_lit w4 pickB _) (fun _ => lit_apart (HS.out.cur b rfl)) (by omega) (by omega)).mono ?_; rintro e w5 ⟨j, hj, rfl, hC5, ho5⟩; obtain ⟨u, hu⟩ : ∃ u, pickB[j]?.getD 0 = u := ⟨_, rfl⟩; rw [hu]; clear hu; have HS5 := hide ((HS.out.keep (hald.out _)).draw (fun j hj => by subst hj; exact hC5) ho5); obtain ⟨y50, y51, q50, q51, yl5⟩ := HS5.out.box; have hf5 := HS5.out.own.frozenAt 0; have hc5 : w5.cell? ⟨g, 0, none⟩ = some (.int .i64 (l[0]?.getD 0)) := (by obtain ⟨ad, e9, -, hc9⟩ := (ints_of HS5.out.own).at_ (k := 0) hn0; injection e9 with e9; subst e9; simpa [Addr.add] using hc9); clear hC5 ho5))
      all_goals
        have hst := HS5.out.own.stored 0 (.int .i64 u)
        have HS9 := hide (HS5.out.elem (i := 0) (u := u) rfl (by have := hst.1; rwa [← List.map_set] at this))
        clear hst hf5 hc5 y0 y1 q0 q1 yl
        obtain ⟨e0, e1, k0, k1, el⟩ := HS9.out.box
        obtain ⟨r0, r1, h0, h1, rl⟩ := HS9.out.res
        have HFIN := hide (HS9.out.fin (.slice (some ⟨g, 0, none⟩) n1 c9) (.int .i64 cls))
        go_wp2
        exact bodyPost_ret (v := .agg #[.slice (some ⟨g, 0, none⟩) n1 c9, .int .i64 cls]) (by simp [results, Tryd.results147, go_sem, r0, r1]) rfl
          ⟨_, _, rfl, ⟨_, exO_of (own_lower HFIN.out.1 (by have := HZ0.out; omega)) (by omega) (Nat.le_refl _) (by omega)⟩, HFIN.out.2.1 b rfl, (Only.of_below HAL0.out).trans HFIN.out.2.2⟩
  · have h0' : (q == 0) = false := beq_eq_false_iff_ne.2 (by omega)
    have h1' : (q == 1) = false := beq_eq_false_iff_ne.2 (by omega)
    have h2' : (q == 2) = false := beq_eq_false_iff_ne.2 (by omega)
    obtain ⟨e0, e1, k0, k1, el⟩ := HS.out.box
    obtain ⟨r0, r1, h0, h1, rl⟩ := HS.out.res
    have HFIN := hide (HS.out.fin (.slice G n1 c9) (.int .i64 cls))
    go_wp2
    exact bodyPost_ret (v := .agg #[.slice G n1 c9, .int .i64 cls]) (by simp [results, Tryd.results147, go_sem, r0, r1]) rfl
      ⟨_, _, rfl, ⟨_, exO_of (own_lower HFIN.out.1 (by have := HZ0.out; omega)) (by omega) (Nat.le_refl _) (by omega)⟩, HFIN.out.2.1 b rfl, (Only.of_below HAL0.out).trans HFIN.out.2.2⟩


set_option maxHeartbeats 8000000 in
theorem drawExOk_any (A : Option Addr) (n c : Nat) (l : List UInt8) (w : World) (hl : Bytes w A n l) (hn : n ≤ 1048576) :
    Calls Tryd.prog 122 #[.slice A n c] w fun e w' => ∃ x0 x1 y0 y1, e = .returned (.tuple #[.agg #[x0, x1], .agg #[y0, y1]]) ∧ (∃ d, SchemaO w.heap.size w'.heap.size w' x0 x1 d) ∧ (∃ E, ExO w.heap.size w'.heap.size w' y0 y1 E) ∧ Below w.heap.size w w' := by
  have hP := rpre_two w 35 30
  obtain ⟨W1, hW1⟩ : ∃ W, W = (w.alloc (.cells #[.slice none 0 0, .slice none 0 0] 35)).alloc (.cells #[.slice none 0 0, .int .i64 0] 30) := ⟨_, rfl⟩
  rw [← hW1] at hP
  have HP := hide hP
  have HL := hide (hl.keep hP.2.2)
  have HW := hide hW1
  clear hl hP hW1
  go_enter Tryd.func122, Tryd.ntmps122
  go_wp2_with (fail)
  rw [← HW.out]
  refine (l1New_any A n c l _ HL.out hn).mono ?_
  rintro e w1 ⟨b, rfl, hb, hC, hB⟩
  have hz1 := hB.size
  have hzp := HP.out.2.1.lt
  replace HP := hide (show Two w w1 from ⟨HP.out.1.keep hB, HP.out.2.1.keep hB, bthen HP.out.2.2 hB⟩)
  clear hB HL HW
  go_wp2_with (fail)
  refine (l5Draw_any b _ hC).mono ?_
  rintro e w2 ⟨x0, x1, rfl, ⟨d, hO, h6⟩, hC2, ho⟩
  have hbl := hC.lt
  have hz2 := ho.size
  replace HP := hide (show Two w w2 from ⟨HP.out.1.only ho (by omega), HP.out.2.1.only ho (by omega), Only.below HP.out.2.2 HP.out.2.2.size ho (fun j hj => by omega)⟩)
  have HO := hide hO
  obtain ⟨A1, n1, c1, D1, m1, k1, rr, rfl, rfl, -⟩ := hO
  have hal : Below w2.heap.size w2 (w2.alloc (.cells #[.slice A1 n1 c1, .slice D1 m1 k1] 35)) := (Below.refl _ _).alloc (Nat.le_refl _) _
  have hX := BoxW.new w2 (.slice A1 n1 c1) (.slice D1 m1 k1) 35
  replace HO := hide (HO.out.below hal)
  have HC2 := hide (hC2.keep hal)
  replace HP := hide (show Two w (w2.alloc (.cells #[.slice A1 n1 c1, .slice D1 m1 k1] 35)) from ⟨HP.out.1.keep hal, HP.out.2.1.keep hal, bthen HP.out.2.2 hal⟩)
  obtain ⟨W3, hW3⟩ : ∃ W, W = w2.alloc (.cells #[.slice A1 n1 c1, .slice D1 m1 k1] 35) := ⟨_, rfl⟩
  have hz3 : W3.heap.size = w2.heap.size + 1 := by rw [hW3]; simp
  rw [← hW3] at HP HO HC2 hX hal
  have HW := hide hW3
  clear ho hC hC2 hW3
  obtain ⟨x0, x1, f0, f1, xl⟩ := id hX
  rw [HW.out] at x0 x1 f0 f1 xl
  go_wp2
  rw [← HW.out] at x0 x1 f0 f1 xl ⊢
  have HOD := hide (show SchemaO w1.heap.size W3.drew.heap.size W3.drew (.slice A1 n1 c1) (.slice D1 m1 k1) d from schemaO_up (HO.out.below (Below.refl _ W3).drew) (Nat.le_refl _) (by simp; omega))
  have HCD := hide (HC2.out.keep (Below.refl _ W3).drew)
  have HPD := hide (show Two w W3.drew from ⟨HP.out.1.keep (Below.refl _ W3).drew, HP.out.2.1.keep (Below.refl _ W3).drew, bthen HP.out.2.2 (Below.refl _ W3).drew⟩)
  obtain ⟨r0, r1, h0, h1, rl⟩ := HPD.out.1
  obtain ⟨s0, s1, i0, i1, sl⟩ := HPD.out.2.1
  have HXD := hide (hX.keep (Below.refl _ W3).drew)
  go_region_law (first
    | (go_simp; go_at_call 147; refine (l7Draw_any b _ _ d w1.heap.size _ HCD.out HOD.out hbl h6).mono ?_; rintro e w5 ⟨y0, y1, rfl, ⟨E, hE⟩, hC5, ho5⟩; have HE := hide hE; obtain ⟨G, n9, c9, rfl, rfl, -⟩ := hE; have HP5 := hide (show Two w w5 from ⟨HPD.out.1.only ho5 (by omega), HPD.out.2.1.only ho5 (by omega), Only.below HPD.out.2.2 HPD.out.2.2.size ho5 (fun j hj => by omega)⟩); have HO5 := hide (HOD.out.only ho5 (fun k hk => .inl (by omega))); obtain ⟨a0, a1, b0, b1, al⟩ := HP5.out.1; obtain ⟨t0, t1, j0, j1, tl⟩ := HP5.out.2.1; have ho5s := hide ho5.size; obtain ⟨v0, v1, g0, g1, vl⟩ := HXD.out.only ho5 (by omega); clear hC5 ho5))
  all_goals
    go_wp2
    have hs := (((((Only.refl (fun j => w.heap.size = j ∨ w.heap.size + 1 = j) w5).setCell (p := ⟨w.heap.size, 0, none⟩) (.inl rfl) (.slice A1 n1 c1)).setCell (p := ⟨w.heap.size, 1, none⟩) (.inl rfl) (.slice D1 m1 k1)).setCell (p := ⟨w.heap.size + 1, 0, none⟩) (.inr rfl) (.slice G n9 c9)).setCell (p := ⟨w.heap.size + 1, 1, none⟩) (.inr rfl) (.int .i64 E.cls))
    have hlow := (((HP5.out.2.2.setCell (p := ⟨w.heap.size, 0, none⟩) (Nat.le_refl _) (.slice A1 n1 c1)).setCell (p := ⟨w.heap.size, 1, none⟩) (Nat.le_refl _) (.slice D1 m1 k1)).setCell (p := ⟨w.heap.size + 1, 0, none⟩) (Nat.le_succ _) (.slice G n9 c9)).setCell (p := ⟨w.heap.size + 1, 1, none⟩) (Nat.le_succ _) (.int .i64 E.cls)
    exact bodyPost_ret (v := .tuple #[.agg #[.slice A1 n1 c1, .slice D1 m1 k1], .agg #[.slice G n9 c9, .int .i64 E.cls]]) (by simp [results, Tryd.results122, go_sem, a0, a1, t0, t1]) rfl
      ⟨_, _, _, _, rfl, ⟨d, schemaO_up (HO5.out.only hs (fun k hk => .inl (by omega))) (by omega) (by have := ho5s.out; simp at this ⊢; omega)⟩, ⟨E, exO_up (HE.out.only hs (fun k hk => .inl (by simp; omega))) (by simp; omega) (by simp)⟩, hlow⟩

set_option maxHeartbeats 4000000 in
theorem drawExText_any (A : Option Addr) (n c : Nat) (l : List UInt8) (w : World) (hl : Bytes w A n l) (hn : n ≤ 1048576) :
    Calls Tryd.prog 66 #[.slice A n c] w fun e w' => ∃ x0 x1 y0 y1, e = .returned (.tuple #[.agg #[x0, x1], .agg #[y0, y1]]) ∧ (∃ d, SchemaM w' x0 x1 d) ∧ (∃ E, ExM w' y0 y1 E) ∧ Below w.heap.size w w' := by
  have hP := rpre_two w 35 30
  obtain ⟨W1, hW1⟩ : ∃ W, W = (w.alloc (.cells #[.slice none 0 0, .slice none 0 0] 35)).alloc (.cells #[.slice none 0 0, .int .i64 0] 30) := ⟨_, rfl⟩
  rw [← hW1] at hP
  have HP := hide hP
  have HL := hide (hl.keep hP.2.2)
  have HW := hide hW1
  clear hl hP hW1
  go_enter Tryd.func66, Tryd.ntmps66
  go_wp2_with (fail)
  rw [← HW.out]
  refine (drawExOk_any A n c l _ HL.out hn).mono ?_
  rintro e w5 ⟨x0, x1, y0, y1, rfl, ⟨d, hO⟩, ⟨E, hE⟩, hb⟩
  have HO := hide hO
  have HE := hide hE
  obtain ⟨A1, n1, c1, D1, m1, k1, rr, rfl, rfl, -⟩ := hO
  obtain ⟨G, n9, c9, rfl, rfl, -⟩ := hE
  have hzp := HP.out.2.1.lt
  replace HP := hide (show Two w w5 from ⟨HP.out.1.keep hb, HP.out.2.1.keep hb, bthen HP.out.2.2 hb⟩)
  obtain ⟨a0, a1, b0, b1, al⟩ := HP.out.1
  obtain ⟨t0, t1, j0, j1, tl⟩ := HP.out.2.1
  go_wp2
  have hs := (((((Only.refl (fun j => w.heap.size = j ∨ w.heap.size + 1 = j) w5).setCell (p := ⟨w.heap.size, 0, none⟩) (.inl rfl) (.slice A1 n1 c1)).setCell (p := ⟨w.heap.size, 1, none⟩) (.inl rfl) (.slice D1 m1 k1)).setCell (p := ⟨w.heap.size + 1, 0, none⟩) (.inr rfl) (.slice G n9 c9)).setCell (p := ⟨w.heap.size + 1, 1, none⟩) (.inr rfl) (.int .i64 E.cls))
  have hlow := (((HP.out.2.2.setCell (p := ⟨w.heap.size, 0, none⟩) (Nat.le_refl _) (.slice A1 n1 c1)).setCell (p := ⟨w.heap.size, 1, none⟩) (Nat.le_refl _) (.slice D1 m1 k1)).setCell (p := ⟨w.heap.size + 1, 0, none⟩) (Nat.le_succ _) (.slice G n9 c9)).setCell (p := ⟨w.heap.size + 1, 1, none⟩) (Nat.le_succ _) (.int .i64 E.cls)
  exact bodyPost_ret (v := .tuple #[.agg #[.slice A1 n1 c1, .slice D1 m1 k1], .agg #[.slice G n9 c9, .int .i64 E.cls]]) (by simp [results, Tryd.results66, go_sem, a0, a1, t0, t1]) rfl
    ⟨_, _, _, _, rfl, ⟨d, (HO.out.only hs (fun k hk => .inl (by omega))).m⟩, ⟨E, (HE.out.only hs (fun k hk => .inl (by omega))).m⟩, hlow⟩
end Go.Proofs.YtohodehmidbmlaaDoor
namespace Go.Proofs.YtohodehmidbmlaaDoor
open Go.RowKit
set_option maxRecDepth 100000
theorem one_cell {W : World} {ad : Addr} {u : Value} (h : W.cell? ad = some u) : ∀ j v, ([u] : List Value)[j]? = some v → ∃ a, some ad = some a ∧ W.cell? (a.add j) = some v := by
  intro j v hv
  rcases j with _ | j
  · simp only [List.getElem?_cons_zero, Option.some.injEq] at hv
    subst hv
    exact ⟨ad, rfl, by rw [show ad.add 0 = ad by simp [Addr.add]]; exact h⟩
  · simp at hv
theorem one_new (W : World) (u : Value) (e : TypeId) : ∀ j v, ([u] : List Value)[j]? = some v → ∃ a, some (⟨W.heap.size, 0, none⟩ : Addr) = some a ∧ (W.alloc (.cells #[u] e)).cell? (a.add j) = some v :=
  one_cell (by rw [cell_of_row _ W.heap.size 0 #[u] e (0, 0) (heap_alloc_new W _)]; rfl)

set_option maxHeartbeats 8000000 in
theorem specExText_any (x0 x1 y0 y1 : Value) (d : SchemaD) (e : ExD) (w : World) (h : SchemaM w x0 x1 d) (h' : ExM w y0 y1 e) :
    Calls Tryd.prog 63 #[.agg #[x0, x1], .agg #[y0, y1]] w fun r w' => r = .returned (.string (exT d e)) ∧ Below w.heap.size w w' := by
  have hSM := hide h
  have hEM := hide h'
  obtain ⟨A, n, c, D, m, k, rfl, rfl, hl, hn, hr, hs, hm, hmk⟩ := h
  obtain ⟨G, b, f, rfl, rfl, hg, hb, hwf⟩ := h'
  have hbox : Below w.heap.size w ((w.alloc (.cells #[.slice A n c, .slice D m k] 35)).alloc (.cells #[.slice G b f, .int .i64 e.cls] 30)) := ((Below.refl _ _).alloc (Nat.le_refl _) _).alloc (by simp) _
  obtain ⟨W, hW⟩ : ∃ W, W = ((w.alloc (.cells #[.slice A n c, .slice D m k] 35)).alloc (.cells #[.slice G b f, .int .i64 e.cls] 30)) := ⟨_, rfl⟩
  have hX := (Box2.new w (.slice A n c) (.slice D m k) 35).keep (Below.alloc (Below.refl _ _) (Nat.le_refl _) (.cells #[.slice G b f, .int .i64 e.cls] 30))
  have hY := Box2.new (w.alloc (.cells #[.slice A n c, .slice D m k] 35)) (.slice G b f) (.int .i64 e.cls) 30
  have hz : (w.alloc (.cells #[.slice A n c, .slice D m k] 35)).heap.size = w.heap.size + 1 := by simp
  rw [hz] at hY
  clear hz
  rw [← hW] at hX hY
  have HL := hide (hl.keep hbox)
  have HR := hide (hr.keep hbox)
  have HG := hide (hg.keep hbox)
  have HSM := hide (hSM.out.keep hbox)
  have HEM := hide (hEM.out.keep hbox)
  rw [← hW] at HL HR HG hbox HSM HEM
  have hl1 := hide hl.1
  have hr1 := hide hr.1
  have hg1 := hide hg.1
  have HW := hide hW
  have hcl := bounds_i64 hwf
  clear hl hr hs hW hg hSM hEM
  obtain ⟨j0, j1, j2⟩ := id hX
  obtain ⟨i0, i1, i2⟩ := id hY
  cases hok : exB d e
  · have hfin := hide (exT_no hok)
    go_enter Tryd.func63, Tryd.ntmps63
    go_wp2_with (fail)
    rw [← HW.out]
    refine (specExOk_any _ _ _ _ d e _ HSM.out HEM.out).mono ?_
    rintro r w1 ⟨rfl, hb1⟩
    rw [hok]
    have hB := bthen hbox hb1
    clear hb1 hX hY j0 j1 j2 i0 i1 i2
    go_wp2
    go_ret
    exact ⟨by rw [hfin.out]; rfl, hB⟩
  have hfin := hide (exT_yes hok)
  obtain ⟨g1, g2, ⟨g3, g4⟩, -⟩ := exB_parts hok
  obtain ⟨⟨q1, q2⟩, ⟨q3, q4⟩, q5, -⟩ := schemaB_parts g1
  have hcz := clsT_size hok
  have HOK := hide hok
  have hbn : b = n := by have := hl1.out; have := hg1.out; omega
  subst hbn
  have hn5 : b ≤ 5 := by have := hl1.out; omega
  have hm3 : m ≤ 3 := by have := hr1.out; omega
  have hcm : e.cls < m := by have := hr1.out; omega
  have hJs := joinB_small (l := cellsT d e e.bins.length) (sep := ⟨#[44]⟩) (by rw [cellsT_len]; omega) (cellsT_size _ _ _) (by decide)
  rw [← hg1.out] at hfin hJs
  obtain ⟨J, hJ⟩ : ∃ J, J = joinB (cellsT d e b) ⟨#[44]⟩ := ⟨_, rfl⟩
  obtain ⟨Cl, hCl⟩ : ∃ J, J = clsT d e := ⟨_, rfl⟩
  obtain ⟨X, hXc⟩ : ∃ x, x = e.cls := ⟨_, rfl⟩
  rw [← hJ] at hfin hJs
  rw [← hCl] at hfin hcz
  have HJ := hide hJ
  have HCl := hide (show Cl = if 0 ≤ X then d.classes[X.toNat]?.getD ByteArray.empty else ⟨#[63]⟩ by rw [hCl, hXc]; rfl)
  rw [← hXc] at hcl g3 g4 hcm i1 hY HW
  have z1 : ¬ 9223372036854775807 < J.size + 1 := by omega
  have z2 : ¬ 9223372036854775807 < J.size + 1 + Cl.size := by omega
  have hXcc := hide hXc
  clear hok g1 g2 g4 q1 q2 q3 q4 q5 hJ hCl hXc i0 i1 i2 j0 j1 j2
  go_enter Tryd.func63, Tryd.ntmps63
  obtain ⟨j0, j1, j2⟩ := id hX
  obtain ⟨i0, i1, i2⟩ := id hY
  rw [← hXcc.out]
  go_wp2_with (fail)
  rw [← HW.out]
  refine (specExOk_any _ _ _ _ d e _ HSM.out (by rw [hXcc.out]; exact HEM.out)).mono ?_
  rintro r w1 ⟨rfl, hb1⟩
  rw [HOK.out]
  have hB := bthen hbox hb1
  clear j0 j1 j2 i0 i1 i2
  replace hX := hX.keep hb1
  replace hY := hY.keep hb1
  replace HL := hide (HL.out.keep hb1)
  replace HR := hide (HR.out.keep hb1)
  replace HG := hide (HG.out.keep hb1)
  clear hb1 hbox HSM HEM
  have hown0 := own_empty w1 w1.heap.size 9 1 (Nat.le_refl _)
  obtain ⟨j0, j1, j2⟩ := id hX
  obtain ⟨i0, i1, i2⟩ := id hY
  go_wp2
  clear j0 j1 j2 i0 i1 i2
  go_loopw [5, 6] (fun v i wr => ∃ K : Nat, K ≤ b ∧ i = .int .i64 K ∧ (∃ G M, v = .slice G K M) ∧ wr.ownsRow w1.heap.size 9 1 v K ((cellsT d e K).map Value.string) ∧ Below w1.heap.size w1 wr) (fun _ i _ => b - (intOf i).toNat)
  case atStart => exact ⟨0, Nat.zero_le _, rfl, ⟨_, _, rfl⟩, by simpa [cellsT] using hown0, (Below.refl _ _).alloc (Nat.le_refl _) _⟩
  case round =>
    clear hown0
    obtain ⟨K, hk, rfl, ⟨T, M, rfl⟩, hown, hbel⟩ := hrel
    have hXr := hX.keep hbel
    have hYr := hY.keep hbel
    by_cases hlt : K < b
    · obtain ⟨ad, A1, n1, c1, A2, n2, c2, rfl, hbk, g0, g1, g2, hI⟩ := (HL.out.keep hbel).at_ hlt
      obtain ⟨au, rfl, hub, hcell⟩ := (HG.out.keep hbel).at_ hlt
      have hst := hide (cellsT_snoc d e K)
      obtain ⟨a, ha⟩ : ∃ a, a = d.attrs[K]?.getD default := ⟨_, rfl⟩
      obtain ⟨x, hx⟩ : ∃ x, x = e.bins[K]?.getD 0 := ⟨_, rfl⟩
      rw [← ha] at g0 hI hst
      rw [← hx] at hcell hst
      clear ha hx
      have HI := hide hI
      clear hI
      obtain ⟨j0, j1, j2⟩ := id hXr
      obtain ⟨i0, i1, i2⟩ := id hYr
      have hsz1 := hbel.size
      have HO := hide hown
      have HBel := hide hbel
      have hi0 : (0 : Int) ≤ K := by omega
      have hi1 : (K : Int) < b := by omega
      clear hown hbel
      go_wp2
      have hsz0 : wr.heap.size < wr.heap.size + 1 := by omega
      have hgo := hide (fun (W w7 : World) (hW : Below wr.heap.size wr W) (hb7 : Below W.heap.size W w7) => (⟨own_below HO.out (bthen hW hb7), bthen hW hb7⟩ : w7.ownsRow w1.heap.size 9 1 (.slice T K M) K ((cellsT d e K).map Value.string) ∧ Below wr.heap.size wr w7))
      go_region_law (first
        | (go_simp; go_at_call 44; refine (specCellText_any _ _ _ _ _ _ a x _ (HI.out.keep ((Below.refl _ _).drew))).mono ?_; rintro r w7 ⟨rfl, hb7⟩; have hp := hide (hgo.out _ _ (Below.refl _ _).drew hb7))
        | (refine step_append_src _ rfl (.tmp 20) (.tmp 32) 23 rfl w1.heap.size 9 (.string ⟨#[]⟩) 1 16 Tryd.underlying23 infoS rfl (by decide) (.slice T K M) K _ [.string (cellT a x)] rfl (hp.out.1.alloc _) _ 1 1 rfl rfl (one_new _ _ _) (by simp [Value.oneCell']) (by unfold maxLen; omega) (by omega) (by have := hp.out.2.size; simp; omega) ?_; intro v' w8 hown8 hb8 _ _))
      all_goals
        have hbel3 := (HBel.out.trans (hp.out.2.mono (by omega))).trans (((Below.refl _ w7).alloc (Nat.le_refl _) (.cells #[.string (cellT a x)] 9)).mono (by have := hp.out.2.size; omega))
        have hbel4 := hbel3.trans hb8
        clear hp hb7
        go_wp2
        exact ⟨⟨K + 1, by omega, by go_num, own_shape hown8, by rw [hst.out]; exact hown8, hbel4⟩, by simp [intOf]; omega⟩
    · obtain rfl : K = b := by omega
      have HT1 := hide (strs_of hown)
      have hcap := own_cap hown
      have HRr := hide (HR.out.keep hbel)
      have hB3 := bthen hB hbel
      clear hown
      obtain ⟨j0, j1, j2⟩ := id hXr
      obtain ⟨i0, i1, i2⟩ := id hYr
      by_cases hc0 : 0 ≤ X
      · obtain ⟨C0, rfl⟩ : ∃ C0 : Nat, X = C0 := ⟨X.toNat, by omega⟩
        obtain ⟨av, rfl, hvb, hcell⟩ := (HRr.out).at_ (k := C0) (by omega)
        have hcc := hide (show Cl = d.classes[C0]?.getD ByteArray.empty by rw [HCl.out, if_pos hc0]; rfl)
        rw [← hcc.out] at hcell
        have hC0 : C0 < m := by omega
        clear hcm g3
        go_wp2_with (fail)
        refine (l5Join_any T K M (cellsT d e K) ⟨#[44]⟩ _ HT1.out (by omega) (cellsT_size _ _ _) (by decide)).mono ?_
        rintro r w2 ⟨rfl, rfl⟩
        rw [← HJ.out]
        have hfin2 := hide (show joinB (cellsT d e K) ⟨#[44]⟩ = J from HJ.out.symm)
        have hBf := hB3
        go_wp2
        go_ret
        exact ⟨by rw [hfin.out]; rfl, hBf⟩
      · have hcc := hide (show Cl = ⟨#[63]⟩ by rw [HCl.out, if_neg hc0])
        rw [hcc.out] at z2 hfin
        go_wp2_with (fail)
        refine (l5Join_any T K M (cellsT d e K) ⟨#[44]⟩ _ HT1.out (by omega) (cellsT_size _ _ _) (by decide)).mono ?_
        rintro r w2 ⟨rfl, rfl⟩
        rw [← HJ.out]
        have hBf := hB3
        go_wp2
        go_ret
        exact ⟨by rw [hfin.out]; rfl, hBf⟩
end Go.Proofs.YtohodehmidbmlaaDoor
namespace Go.Proofs.YtohodehmidbmlaaDoor
open Go.RowKit

def byteV (x : UInt8) : Value := .int .u8 (x.toNat : Int)
theorem byteV_eq (x : UInt8) : byteV x = .int .u8 (x.toNat : Int) := rfl

set_option maxHeartbeats 400000 in
theorem eqByteS_any (A B : Option Addr) (n m c d : Nat) (l r : List UInt8) (w : World) (hl : Bytes w A n l) (hr : Bytes w B m r) (hn : n ≤ 2097152) (hm : m ≤ 2097152) :
    Calls Tryd.prog 26 #[.slice A n c, .slice B m d] w fun e w' => e = .returned (.bool (decide (l = r))) ∧ ∃ q, w' = w.drewN q := by
  have HL := hide hl
  have HR := hide hr
  clear hl hr
  by_cases hnm : n = m
  · subst hnm
    go_enter Tryd.func26, Tryd.ntmps26
    go_wp2
    go_loopw [5] (fun i wr => ∃ k : Nat, k ≤ n ∧ i = .int .i64 k ∧ l.take k = r.take k ∧ ∃ q, wr = w.drewN q) (fun i _ => n - (intOf i).toNat)
    case atStart => exact ⟨0, Nat.zero_le _, rfl, by simp, 0, rfl⟩
    case round =>
      obtain ⟨k, hk, rfl, htk, q, rfl⟩ := hrel
      have HT := hide htk
      clear htk
      by_cases hlt : k < n
      · obtain ⟨a1, rfl, _, hc1⟩ := (HL.out).at_ hlt
        obtain ⟨a2, rfl, _, hc2⟩ := (HR.out).at_ hlt
        by_cases he : l[k]?.getD 0 = r[k]?.getD 0
        · have HS := hide (take_eq_step 0 (by have := HL.out.1; omega) (by have := HR.out.1; omega) HT.out he)
          have HE : ((((l[k]?.getD 0).toNat : Int)) == (((r[k]?.getD 0).toNat : Int))) = true := by rw [he]; exact beq_self_eq_true _
          have HE' : ((((l[k]?.getD 0).toNat : Int)) != (((r[k]?.getD 0).toNat : Int))) = false := by rw [he]; simp
          clear he
          go_wp2
          go_quiet (fail)
          go_wp2
          go_roundw
          case rel => exact ⟨k + 1, by omega, by go_num, HS.out, _, rfl⟩
          case measure => simp [intOf]; omega
        · have HS := hide (take_ne_step 0 he)
          have HE' : ((((l[k]?.getD 0).toNat : Int)) != (((r[k]?.getD 0).toNat : Int))) = true := by rw [bne_iff_ne]; intro h; exact he (UInt8.toNat_inj.1 (by omega))
          clear he
          go_wp2
          go_quiet (fail)
          go_wp2
          go_ret
          exact ⟨ret_bool (by simp [HS.out]), _, World.drewN_drewN _ _ _⟩
      · have HS := hide (show l = r by
          have h := HT.out
          rwa [List.take_of_length_le (by have := HL.out.1; omega), List.take_of_length_le (by have := HR.out.1; omega)] at h)
        go_wp2
        go_ret
        exact ⟨ret_bool (by simp [HS.out]), _, rfl⟩
  · have HS := hide (show ¬ l = r by
      rintro rfl
      exact hnm (by have := HL.out.1; have := HR.out.1; omega))
    have hne : ((n : Int) != (m : Int)) = true := by rw [bne_iff_ne]; omega
    clear hnm
    go_enter Tryd.func26, Tryd.ntmps26
    go_wp2
    go_ret
    exact ⟨ret_bool (by simp [HS.out]), 0, rfl⟩

theorem infoB : (Tryd.prog.info? 5).map (fun i => (i.zero, i.size, i.bytes)) = some (some (.int .u8 0), 1, 1) := by kernel_rfl

/-- A slice value that owns the integers l, in a block from B on. -/
abbrev OwnB (B : Nat) (w : World) (v : Value) (l : List UInt8) : Prop := w.ownsRow B 5 1 v l.length (l.map byteV)

theorem OwnB.ints {B : Nat} {w : World} {A : Option Addr} {n c : Nat} {l : List UInt8} (h : OwnB B w (.slice A n c) l) : Bytes w A n l := by
  obtain ⟨h1, h2⟩ := h
  rcases h2 with ⟨hv, hn⟩ | ⟨g, cap, cur, hv, hb, hg, hnc, hcm, hcs, ht⟩
  · injection hv with h3 h4 h5
    exact ⟨by omega, fun h => absurd h (by omega)⟩
  · injection hv with h3 h4 h5
    subst h3 h4 h5
    refine ⟨rfl, fun hn => ⟨_, rfl, (Array.getElem?_eq_some_iff.1 hg).1, fun i hi => ⟨[.int .u8 l[i].toNat], rfl, rfl, fun j u hu => ?_⟩⟩⟩
    have hj : j = 0 := by
      rcases j with _ | j
      · rfl
      · simp at hu
    subst hj
    simp only [List.getElem?_cons_zero, Option.some.injEq] at hu
    subst hu
    have := World.ownsRow.cells (v := .slice (some ⟨g, 0, none⟩) l.length c) ⟨h1, .inr ⟨g, c, cur, rfl, hb, hg, hnc, hcm, hcs, ht⟩⟩ (g := g) rfl i (.int .u8 l[i].toNat) (by simp [hi, byteV])
    simpa using this

theorem getD_map_byte {l : List UInt8} {k : Nat} (h : k < l.length) : (l.map byteV)[k]? = some (.int .u8 (l[k]?.getD 0).toNat) := by
  rw [List.getElem?_map, List.getElem?_eq_getElem h]; rfl
theorem bytes_of {B : Nat} {w : World} {A : Option Addr} {n c : Nat} {l : List UInt8} (h : w.ownsRow B 5 1 (.slice A n c) n (l.map byteV)) : Bytes w A n l := by
  have hn : n = l.length := by simpa using h.1.symm
  subst hn
  exact OwnB.ints h
theorem eqByteS_b (A B : Option Addr) (n m c d : Nat) (l r : List UInt8) (w : World) (hl : Bytes w A n l) (hr : Bytes w B m r) (hn : n ≤ 2097152) (hm : m ≤ 2097152) :
    Calls Tryd.prog 26 #[.slice A n c, .slice B m d] w fun e w' => e = .returned (.bool (decide (l = r))) ∧ Below w.heap.size w w' :=
  (eqByteS_any A B n m c d l r w hl hr hn hm).mono fun _ _ ⟨he, q, hw⟩ => ⟨he, by subst hw; exact below_drewN (Below.refl _ _) _⟩

set_option maxHeartbeats 400000 in
theorem toByteS_any (A : Option Addr) (n c : Nat) (l : List UInt8) (w : World) (hl : Bytes w A n l) (hn : n ≤ 2097152) :
    Calls Tryd.prog 22 #[.slice A n c] w fun e w' => ∃ D m, e = .returned (.slice D n m) ∧ OwnB w.heap.size w' (.slice D n m) l ∧ Below w.heap.size w w' := by
  have HL := hide hl
  have hlen : l.length ≤ n := by rw [hl.1]; exact Nat.le_refl _
  have hlen' : n ≤ l.length := by rw [hl.1]; exact Nat.le_refl _
  clear hl
  obtain ⟨i0, hi0, hz0, hz1, hz2⟩ := info_parts infoB
  go_enter Tryd.func22, Tryd.ntmps22
  go_wp2_with (at_make; refine wpList_make_full _ rfl _ _ 26 rfl w.heap.size 5 i0 (.int .u8 0) 1 Tryd.underlying26 hi0 hz0 hz1 _ _ _ _ n rfl rfl rfl rfl (by rw [hz2]; omega) (by unfold maxLen; omega) (Nat.le_refl _) ?_; intro w1 hown1 hg1)
  have hown : w1.ownsRow w.heap.size 5 1 (.slice (some ⟨w.heap.size, 0, none⟩) n n) n (fillTo (l.map byteV) (.int .u8 0) 0) := by
    have h := hown1
    simp only [Value.cells, Nat.mul_one] at h
    rw [toList_madeCells_one] at h
    rw [fillTo_zero, List.length_map, show l.length = n by omega]
    exact h
  have hb1 : Below w.heap.size w w1 := (Below.refl _ _).grown hg1 (Nat.le_refl _) (by simp)
  clear hown1 hg1 hi0 hz0 hz1 hz2
  go_loopw [4] (fun i wr => ∃ k : Nat, k ≤ n ∧ i = .int .i64 k ∧ wr.ownsRow w.heap.size 5 1 (.slice (some ⟨w.heap.size, 0, none⟩) n n) n (fillTo (l.map byteV) (.int .u8 0) k) ∧ Below w.heap.size w wr) (fun i _ => n - (intOf i).toNat)
  case atStart => exact ⟨0, Nat.zero_le _, rfl, hown, hb1⟩
  case round =>
    clear hown hb1
    obtain ⟨k, hk, rfl, hown, hbel⟩ := hrel
    by_cases hlt : k < n
    · obtain ⟨ad, rfl, hbk, hcell⟩ := (HL.out).at_ hlt
      have hc1 := (hbel.cell (p := ad.add k) (by rw [block_of_add]; exact hbk)).trans hcell
      have hc2 := (hown.cellAt k (by omega)).trans (fillTo_get (by simp; omega))
      have hf2 := hown.frozenAt k
      have hst := (hown.stored k (.int .u8 (l[k]?.getD 0).toNat)).1
      rw [fillTo_set (by simp; omega) (getD_map_byte (by omega))] at hst
      have hb2 := hbel.setCell (p := ⟨w.heap.size, k, none⟩) (Nat.le_refl _) (.int .u8 (l[k]?.getD 0).toNat)
      go_wp2
      go_roundw
      case rel => exact ⟨k + 1, by omega, by go_num, hst, hb2⟩
      case measure => simp [intOf]; omega
    · rw [fillTo_all (by simp; omega)] at hown
      go_wp2
      go_ret
      refine ⟨_, _, rfl, ?_, hbel⟩
      show World.ownsRow _ _ _ _ _ _ _
      rw [show l.length = n by omega]
      exact hown

/-- The marks of bytes. -/
def marksB (k : Int) (n : Nat) : List UInt8 := (List.range n).map fun i => UInt8.ofNat ((k + (i : Nat)).toNat % 256)
theorem marksB_len (k : Int) (n : Nat) : (marksB k n).length = n := by simp [marksB]
theorem marksB_get (k : Int) (h0 : 0 ≤ k) {n i : Nat} (h : i < n) : (((marksB k n)[i]?.getD 0).toNat : Int) = (k + i) % 256 := by
  simp [marksB, h]; omega

set_option maxHeartbeats 400000 in
theorem markByteS_any (B : Nat) (A : Option Addr) (n c : Nat) (l : List UInt8) (k0 : Int) (w : World) (hl : w.ownsRow B 5 1 (.slice A n c) n (l.map byteV))
    (hn : n ≤ 2097152) (h0 : 0 ≤ k0) (h1 : k0 ≤ 1099511627776) :
    Calls Tryd.prog 28 #[.slice A n c, .int .i64 k0] w fun e w' => e = .returned (.int .i64 (k0 + n)) ∧
      w'.ownsRow B 5 1 (.slice A n c) n ((marksB k0 n).map byteV) ∧ w.grownBy w' (Value.ownBlock (.slice A n c)) := by
  have hlen : l.length = n := by simpa using hl.1
  have HX := hide hlen
  clear hlen
  go_enter Tryd.func28, Tryd.ntmps28
  go_wp2
  go_loopw [1, 5] (fun v i wr => ∃ k : Nat, k ≤ n ∧ i = .int .i64 k ∧ v = .int .i64 (k0 + k) ∧ wr.ownsRow B 5 1 (.slice A n c) n (mixTo (l.map byteV) ((marksB k0 n).map byteV) k) ∧ w.grownBy wr (Value.ownBlock (.slice A n c))) (fun _ i _ => n - (intOf i).toNat)
  case atStart => exact ⟨0, Nat.zero_le _, rfl, by simp, by rw [mixTo_zero]; exact hl, World.grownBy.refl _ _⟩
  case round =>
    clear hl
    obtain ⟨k, hk, rfl, rfl, hown, hgr⟩ := hrel
    by_cases hlt : k < n
    · obtain ⟨g, rfl, hbk, hgl⟩ := own_form hown (by omega)
      have hc2 := hown.cellAt k (by omega)
      rw [mixTo_get (by simp [marksB_len]; omega), getD_map_byte (by have := HX.out; omega)] at hc2
      have hf2 := hown.frozenAt k
      have hst := hown.stored k (.int .u8 ((k0 + k) % 256))
      rw [mixTo_set (by simp; have := HX.out; omega) (by simp [marksB_len]; omega) (by rw [getD_map_byte (by rw [marksB_len]; omega), marksB_get k0 h0 hlt])] at hst
      have hst1 := hst.1
      have hst2 := only_trans hgr hst.2
      clear hst
      go_wp2
      go_roundw
      case rel => exact ⟨k + 1, by omega, by go_num, by go_num, hst1, hst2⟩
      case measure => simp [intOf]; omega
    · obtain rfl : k = n := by omega
      rw [mixTo_all (by simp [marksB_len]) (by simp; have := HX.out; omega)] at hown
      go_wp2
      go_ret
      exact ⟨rfl, hown, hgr⟩

end Go.Proofs.YtohodehmidbmlaaDoor
namespace Go.Proofs.YtohodehmidbmlaaDoor
open Go.RowKit

theorem ofInt_i64 (a : Nat) (ha : a < 9223372036854775808) : (BitVec.ofInt 64 (a : Int)).toNat = a := by
  rw [BitVec.ofInt_natCast, BitVec.toNat_ofNat]; exact Nat.mod_eq_of_lt (by omega)
theorem i64_and_nat (a b : Nat) (ha : a < 9223372036854775808) (hb : b < 9223372036854775808) : bits .and .i64 (a : Int) (b : Int) = ((a &&& b : Nat) : Int) := by
  have hx : a &&& b < 2 ^ 63 := Nat.and_lt_two_pow _ (by omega)
  show IntKind.i64.wrap ((BitVec.ofInt 64 (a : Int) &&& BitVec.ofInt 64 (b : Int)).toNat : Int) = _
  rw [BitVec.toNat_and, ofInt_i64 a ha, ofInt_i64 b hb, IntKind.wrap_i64]
  omega
theorem i64_or_nat (a b : Nat) (ha : a < 9223372036854775808) (hb : b < 9223372036854775808) : bits .or .i64 (a : Int) (b : Int) = ((a ||| b : Nat) : Int) := by
  have hx : a ||| b < 2 ^ 63 := Nat.or_lt_two_pow (by omega) (by omega)
  show IntKind.i64.wrap ((BitVec.ofInt 64 (a : Int) ||| BitVec.ofInt 64 (b : Int)).toNat : Int) = _
  rw [BitVec.toNat_or, ofInt_i64 a ha, ofInt_i64 b hb, IntKind.wrap_i64]
  omega
theorem and127 (j : Nat) (h : j < 9223372036854775808) : bits .and .i64 (j : Int) 127 = (j : Int) % 128 := by
  have e := i64_and_nat j 127 h (by omega)
  rw [show j &&& 127 = j % 128 from Nat.and_two_pow_sub_one_eq_mod j 7] at e
  rw [show ((127 : Nat) : Int) = 127 from rfl] at e
  rw [e]; omega
theorem or128 (j : Nat) : bits .or .i64 ((j : Int) % 128) 128 = (j : Int) % 128 + 128 := by
  have e := i64_or_nat (j % 128) 128 (by omega) (by omega)
  have h : (j % 128) ||| 128 = j % 128 + 128 := by
    have := Nat.two_pow_add_eq_or_of_lt (i := 7) (b := j % 128) (by omega) 1
    simp only [Nat.reducePow, Nat.mul_one] at this
    rw [Nat.or_comm]; omega
  rw [h] at e
  rw [show ((128 : Nat) : Int) = 128 from rfl, show ((j % 128 : Nat) : Int) = (j : Int) % 128 by omega] at e
  rw [e]; omega

/-- The groups of seven bits, the least first. -/
def varB (n : Nat) : List UInt8 := if h : n < 128 then [UInt8.ofNat n] else UInt8.ofNat (n % 128 + 128) :: varB (n / 128)
  termination_by n
  decreasing_by omega
theorem varB_low {n : Nat} (h : n < 128) : varB n = [UInt8.ofNat n] := by rw [varB, dif_pos h]
theorem varB_high {n : Nat} (h : ¬ n < 128) : varB n = UInt8.ofNat (n % 128 + 128) :: varB (n / 128) := by rw [varB, dif_neg h]
theorem varB_len : ∀ (n : Nat), (varB n).length ≤ n + 1 := by
  intro n
  induction n using Nat.strongRecOn with
  | _ n ih =>
    by_cases h : n < 128
    · rw [varB_low h]; simp
    · rw [varB_high h]
      have := ih (n / 128) (by omega)
      simp; omega
def putB (n : Int) : List UInt8 := if inB n 0 2147483647 then varB n.toNat else []
theorem varB_len5 {n : Nat} (h : n < 34359738368) : (varB n).length ≤ 5 := by
  by_cases h0 : n < 128
  · rw [varB_low h0]; simp
  rw [varB_high h0]
  by_cases h1 : n / 128 < 128
  · rw [varB_low h1]; simp
  rw [varB_high h1]
  by_cases h2 : n / 128 / 128 < 128
  · rw [varB_low h2]; simp
  rw [varB_high h2]
  by_cases h3 : n / 128 / 128 / 128 < 128
  · rw [varB_low h3]; simp
  rw [varB_high h3, varB_low (by omega)]
  simp
theorem putB_len (n : Int) : (putB n).length ≤ 5 := by
  unfold putB
  split
  · rename_i h
    have := inB_iff.1 h
    exact varB_len5 (by omega)
  · simp

set_option maxRecDepth 100000 in
set_option maxHeartbeats 1000000 in
theorem implPutNum_any (x : Int) (w : World) :
    Calls Tryd.prog 121 #[.int .i64 x] w fun e w' => ∃ D n m, e = .returned (.slice D n m) ∧ OwnB w.heap.size w' (.slice D n m) (putB x) ∧ n = (putB x).length ∧ Below w.heap.size w w' := by
  by_cases h : inB x 0 2147483647 = true
  · obtain ⟨h0, h1⟩ := inB_iff.1 h
    obtain ⟨X, rfl⟩ := Int.eq_ofNat_of_zero_le h0
    have hput := hide (show putB (X : Int) = varB X by rw [putB, if_pos h]; rfl)
    go_enter Tryd.func121, Tryd.ntmps121
    go_wp2_with (first | (go_at_call 103; refine (within_any _ _ _ _).mono ?_; rintro e w' ⟨rfl, rfl⟩))
    have hown0 := own_empty w w.heap.size 5 1 (Nat.le_refl _)
    go_loopw [0, 3] (fun x v wr => ∃ (j n : Nat) (out : List UInt8), x = .int .i64 j ∧ n + j ≤ X ∧ Hid (out ++ varB j = varB X) ∧ (∃ D m, v = .slice D n m) ∧ wr.ownsRow w.heap.size 5 1 v n (out.map byteV) ∧ Below w.heap.size w wr) (fun x _ _ => (intOf x).toNat)
    case atStart => exact ⟨X, 0, [], rfl, by omega, rfl, ⟨_, _, rfl⟩, hown0, (Below.refl _ _).alloc (Nat.le_refl _) _⟩
    case round =>
      clear hown0
      obtain ⟨j, n, out, rfl, hn, hp, ⟨D, m, rfl⟩, hown, hbel⟩ := hrel
      have hsz := hbel.size
      by_cases hlt : 128 ≤ j
      · have hA := and127 j (by omega)
        have hO := or128 j
        have hp' := hide (show (out ++ [UInt8.ofNat (j % 128 + 128)]) ++ varB (j / 128) = varB X by rw [← hp.out, varB_high (by omega : ¬ j < 128)]; simp)
        have hu := hide (show ((out ++ [UInt8.ofNat (j % 128 + 128)]).map byteV) = out.map byteV ++ [.int .u8 ((j : Int) % 128 + 128)] by simp [byteV]; omega)
        go_wp2_with (at_builtin; go_must (refine wpList_append_one wr rfl _ _ 26 rfl w.heap.size 5 (.int .u8 0) 1 1 Tryd.underlying26 infoB rfl (by decide) _ n _ [.int .u8 ((j : Int) % 128 + 128)] rfl hown _ rfl rfl (by simp [Value.oneCell']) rfl (by unfold maxLen; omega) (by omega) hsz ?_); intro v' w1 hown1 hb1 _ _)
        go_roundw
        case rel => exact ⟨j / 128, n + 1, _, by rw [Int.natCast_ediv]; rfl, by omega, hp', own_shape hown1, by rw [hu.out]; exact hown1, hbel.trans hb1⟩
        case measure => simp only [intOf]; omega
      · have hp' := hide (show varB X = out ++ [UInt8.ofNat j] by rw [← hp.out, varB_low (by omega)])
        have hu := hide (show ((out ++ [UInt8.ofNat j]).map byteV) = out.map byteV ++ [.int .u8 (j : Int)] by simp [byteV]; omega)
        have hj := hide (show (j : Int) % 256 = j by omega)
        go_wp2_with (at_builtin; go_must (refine wpList_append_one wr rfl _ _ 26 rfl w.heap.size 5 (.int .u8 0) 1 1 Tryd.underlying26 infoB rfl (by decide) _ n _ [.int .u8 (j : Int)] rfl hown _ rfl rfl (by simp [Value.oneCell']) (by first | rfl | rw [hj.out]) (by unfold maxLen; omega) (by omega) hsz ?_); intro v' w1 hown1 hb1 _ _)
        obtain ⟨D', m', rfl⟩ := own_shape hown1
        go_ret
        have hn2 : out.length = n := by simpa using hown.1
        have hn' : (putB (X : Int)).length = n + 1 := by rw [hput.out, hp'.out]; simp [hn2]
        refine ⟨_, _, _, rfl, ?_, hn'.symm, hbel.trans hb1⟩
        rw [OwnB, hn', hput.out, hp'.out, hu.out]
        exact hown1
  · have hno : inB x 0 2147483647 = false := by simpa using h
    have hput := hide (show putB x = [] by rw [putB, if_neg h])
    clear h
    go_enter Tryd.func121, Tryd.ntmps121
    go_wp2_with (first | (go_at_call 103; refine (within_any _ _ _ _).mono ?_; rintro e w' ⟨rfl, rfl⟩))
    go_ret
    exact ⟨_, _, _, rfl, by rw [hput.out]; exact World.ownsRow_nil _ _ _ _, by rw [hput.out]; rfl, Below.refl _ _⟩

set_option maxRecDepth 100000 in
set_option maxHeartbeats 1000000 in
theorem specPutNum_any (x : Int) (w : World) :
    Calls Tryd.prog 57 #[.int .i64 x] w fun e w' => ∃ D n m, e = .returned (.slice D n m) ∧ OwnB w.heap.size w' (.slice D n m) (putB x) ∧ n = (putB x).length ∧ Below w.heap.size w w' := by
  by_cases h : inB x 0 2147483647 = true
  · obtain ⟨h0, h1⟩ := inB_iff.1 h
    obtain ⟨X, rfl⟩ := Int.eq_ofNat_of_zero_le h0
    have hput := hide (show putB (X : Int) = varB X by rw [putB, if_pos h]; rfl)
    go_enter Tryd.func57, Tryd.ntmps57
    go_wp2_with (first | (go_at_call 113; refine (l1In_any _ _ _ _).mono ?_; rintro e w' ⟨rfl, rfl⟩))
    have hown0 := own_empty w w.heap.size 5 1 (Nat.le_refl _)
    go_loopw [0, 3] (fun x v wr => ∃ (j n : Nat) (out : List UInt8), x = .int .i64 j ∧ n + j ≤ X ∧ Hid (out ++ varB j = varB X) ∧ (∃ D m, v = .slice D n m) ∧ wr.ownsRow w.heap.size 5 1 v n (out.map byteV) ∧ Below w.heap.size w wr) (fun x _ _ => (intOf x).toNat)
    case atStart => exact ⟨X, 0, [], rfl, by omega, rfl, ⟨_, _, rfl⟩, hown0, (Below.refl _ _).alloc (Nat.le_refl _) _⟩
    case round =>
      clear hown0
      obtain ⟨j, n, out, rfl, hn, hp, ⟨D, m, rfl⟩, hown, hbel⟩ := hrel
      have hsz := hbel.size
      by_cases hlt : 128 ≤ j
      · have hA := and127 j (by omega)
        have hO := or128 j
        have hp' := hide (show (out ++ [UInt8.ofNat (j % 128 + 128)]) ++ varB (j / 128) = varB X by rw [← hp.out, varB_high (by omega : ¬ j < 128)]; simp)
        have hu := hide (show ((out ++ [UInt8.ofNat (j % 128 + 128)]).map byteV) = out.map byteV ++ [.int .u8 ((j : Int) % 128 + 128)] by simp [byteV]; omega)
        go_wp2_with (at_builtin; go_must (refine wpList_append_one wr rfl _ _ 26 rfl w.heap.size 5 (.int .u8 0) 1 1 Tryd.underlying26 infoB rfl (by decide) _ n _ [.int .u8 ((j : Int) % 128 + 128)] rfl hown _ rfl rfl (by simp [Value.oneCell']) rfl (by unfold maxLen; omega) (by omega) hsz ?_); intro v' w1 hown1 hb1 _ _)
        go_roundw
        case rel => exact ⟨j / 128, n + 1, _, by rw [Int.natCast_ediv]; rfl, by omega, hp', own_shape hown1, by rw [hu.out]; exact hown1, hbel.trans hb1⟩
        case measure => simp only [intOf]; omega
      · have hp' := hide (show varB X = out ++ [UInt8.ofNat j] by rw [← hp.out, varB_low (by omega)])
        have hu := hide (show ((out ++ [UInt8.ofNat j]).map byteV) = out.map byteV ++ [.int .u8 (j : Int)] by simp [byteV]; omega)
        have hj := hide (show (j : Int) % 256 = j by omega)
        go_wp2_with (at_builtin; go_must (refine wpList_append_one wr rfl _ _ 26 rfl w.heap.size 5 (.int .u8 0) 1 1 Tryd.underlying26 infoB rfl (by decide) _ n _ [.int .u8 (j : Int)] rfl hown _ rfl rfl (by simp [Value.oneCell']) (by first | rfl | rw [hj.out]) (by unfold maxLen; omega) (by omega) hsz ?_); intro v' w1 hown1 hb1 _ _)
        obtain ⟨D', m', rfl⟩ := own_shape hown1
        go_ret
        have hn2 : out.length = n := by simpa using hown.1
        have hn' : (putB (X : Int)).length = n + 1 := by rw [hput.out, hp'.out]; simp [hn2]
        refine ⟨_, _, _, rfl, ?_, hn'.symm, hbel.trans hb1⟩
        rw [OwnB, hn', hput.out, hp'.out, hu.out]
        exact hown1
  · have hno : inB x 0 2147483647 = false := by simpa using h
    have hput := hide (show putB x = [] by rw [putB, if_neg h])
    clear h
    go_enter Tryd.func57, Tryd.ntmps57
    go_wp2_with (first | (go_at_call 113; refine (l1In_any _ _ _ _).mono ?_; rintro e w' ⟨rfl, rfl⟩))
    go_ret
    exact ⟨_, _, _, rfl, by rw [hput.out]; exact own_empty _ _ _ _ (Nat.le_refl _), by rw [hput.out]; rfl, (Below.refl _ _).alloc (Nat.le_refl _) _⟩

theorem below_bytesWorld (w : World) (e : TypeId) (s : ByteArray) : Below w.heap.size w (Lib.bytesWorld w e s) := by
  have h : ∀ W : World, ∀ a : Addr, ∀ n : Nat, (W.freeze a n).os = W.os ∧ (W.freeze a n).tape = W.tape ∧ (W.freeze a n).output = W.output := by
    intro W a n
    unfold World.freeze
    split <;> exact ⟨rfl, rfl, rfl⟩
  refine ⟨?_, ?_, ?_, by rw [Lib.bytesWorld_size]; omega, fun k hk => Lib.bytesWorld_at_old w e s k hk⟩
  · exact (h _ _ _).1
  · exact (h _ _ _).2.1
  · exact (h _ _ _).2.2

/-- A text's bytes, its length ahead. -/
def putT (s : ByteArray) : List UInt8 := putB s.size ++ s.data.toList
theorem strCells_eq (s : ByteArray) : Lib.strCells s = s.data.toList.map byteV := rfl
theorem putT_len (s : ByteArray) : (putT s).length = (putB s.size).length + s.size := by simp [putT]

set_option maxRecDepth 100000 in
set_option maxHeartbeats 1000000 in
theorem implPutText_any (s : ByteArray) (w : World) (hs : s.size ≤ 1048576) :
    Calls Tryd.prog 56 #[.string s] w fun e w' => ∃ D n m, e = .returned (.slice D n m) ∧ OwnB w.heap.size w' (.slice D n m) (putT s) ∧ n = (putT s).length ∧ Below w.heap.size w w' := by
  have hpl : (putB s.size).length ≤ 1048577 := Nat.le_trans (putB_len _) (by omega)
  have HP := hide hpl
  clear hpl
  obtain ⟨i0, hi0, hz0, hz1, hz2⟩ := info_parts infoB
  go_enter Tryd.func56, Tryd.ntmps56
  go_wp2_with (fail)
  refine (implPutNum_any _ _).mono ?_
  rintro e w1 ⟨D1, n1, m1, rfl, ho1, hn1, hb1⟩
  have HN := hide hn1
  clear hn1
  rw [OwnB, ← HN.out] at ho1
  have hsz := hb1.size
  have hle : n1 ≤ 1048577 := by rw [HN.out]; exact HP.out
  go_wp2_with (at_builtin; go_must (refine Lib.wpList_append_own_string _ rfl _ _ 26 9 rfl w.heap.size 5 i0 Tryd.underlying26 Tryd.underlying9 hi0 hz0 hz1 hz2 _ n1 _ rfl ho1 s rfl (by unfold maxLen; omega) (by omega) hsz ?_); intro v' w2 hown2 hg2 _)
  obtain ⟨D', m', rfl⟩ := own_shape hown2
  go_ret
  have hn' : (putT s).length = n1 + s.size := by rw [putT_len, HN.out]
  refine ⟨_, _, _, rfl, ?_, hn'.symm, hb1.grown hg2 hsz fun k hk => (ho1.lt k hk).1⟩
  rw [OwnB, hn', putT, List.map_append]
  exact hown2

end Go.Proofs.YtohodehmidbmlaaDoor
namespace Go.Proofs.YtohodehmidbmlaaDoor
open Go.RowKit
set_option maxRecDepth 100000
set_option linter.unusedSimpArgs false

theorem exT_size (d : SchemaD) (e : ExD) : (exT d e).size ≤ 30000 := by
  rcases h : exB d e with _ | _
  · rw [exT_no h]; decide
  · have h1 := clsT_size h
    have h2 := joinB_size (sep := (⟨#[44]⟩ : ByteArray)) (cellsT_size d e e.bins.length)
    have h3 := (schemaB_parts (exB_parts h).1).1.2
    have h4 := (exB_parts h).2.1
    have h5 : (4096 + (⟨#[44]⟩ : ByteArray).size) * (cellsT d e e.bins.length).length ≤ 4097 * 5 := Nat.mul_le_mul (by decide) (by rw [cellsT_len]; omega)
    have h6 : (⟨#[124]⟩ : ByteArray).size = 1 := rfl
    rw [exT_yes h, ByteArray.size_append, ByteArray.size_append, h6]
    omega
theorem bytes_world (w : World) (t : TypeId) (s : ByteArray) : Bytes (Lib.bytesWorld w t s) (some ⟨w.heap.size, 0, none⟩) s.size s.data.toList := by
  refine ⟨rfl, fun h => ⟨_, rfl, by rw [Lib.bytesWorld_size]; show w.heap.size < _; omega, fun i hi => ⟨[.int .u8 (s.data.toList[i]).toNat], rfl, rfl, fun j u hu => ?_⟩⟩⟩
  rcases j with _ | j
  · simp only [List.getElem?_cons_zero, Option.some.injEq] at hu
    subst hu
    have e : (⟨w.heap.size, 0, none⟩ : Addr).add (i * 1 + 0) = ⟨w.heap.size, i, none⟩ := by unfold Addr.add; split <;> simp_all
    rw [e, Lib.bytesWorld_cell w t s i hi, List.getD_eq_getElem?_getD, List.getElem?_eq_getElem hi]
    rfl
  · simp at hu
def rowTail : List ByteArray := [⟨#[124]⟩, ⟨#[120]⟩, ⟨#[44]⟩]
theorem rowTail_size : ∀ k, k < 3 → (rowTail[k]?.getD ByteArray.empty).size ≤ 16 := by decide
def rowWhole : List ByteArray := [⟨#[]⟩, ⟨#[124]⟩, ⟨#[63]⟩, ⟨#[63, 124]⟩, ⟨#[45, 48, 124, 110, 111]⟩, ⟨#[48, 48, 124, 110, 111]⟩, ⟨#[57, 57, 57, 57, 124, 110, 111]⟩, ⟨#[49, 48, 48, 48, 48, 124, 110, 111]⟩, ⟨#[48, 124, 109, 97, 121, 98, 101]⟩, ⟨#[45, 57, 57, 57, 57, 124, 63]⟩]
theorem rowWhole_size : ∀ k, k < 10 → (rowWhole[k]?.getD ByteArray.empty).size ≤ 16 := by decide

/-- How long a text is. -/
def strLen (v : Value) : Nat := match v with
  | .string s => s.size
  | _ => 0
theorem row_end {w W : World} {b : Nat} (t : TypeId) (s : ByteArray) {z cap : Nat} (hz : s.size = z) (hC : Cur W b) (ho : Only (· = b) w W) (hs : z ≤ 40000) :
    ∃ D n m l, Ending.returned (.slice (some ⟨W.heap.size, 0, none⟩) z cap) = .returned (.slice D n m) ∧ Bytes (Lib.bytesWorld W t s) D n l ∧ (∀ a, D = some a → w.heap.size ≤ a.block) ∧ n ≤ 1048576 ∧ Cur (Lib.bytesWorld W t s) b ∧ Only (· = b) w (Lib.bytesWorld W t s) := by
  subst hz
  exact ⟨_, _, _, _, rfl, bytes_world W t s, (fun a e => by cases e; exact ho.size), by omega, hC.keep (below_bytesWorld W t s), ho.trans (Only.of_below (below_bytesWorld W t s))⟩

set_option maxHeartbeats 8000000 in
theorem l7DrawRow_any (b : Nat) (x0 x1 : Value) (d : SchemaD) (B : Nat) (w : World) (h : Cur w b) (hs : SchemaO B w.heap.size w x0 x1 d) (hB : b < B) :
    Calls Tryd.prog 125 #[.pointer (some ⟨b, 0, none⟩), .agg #[x0, x1]] w fun e w' => ∃ D n m l, e = .returned (.slice D n m) ∧ Bytes w' D n l ∧ (∀ a, D = some a → w.heap.size ≤ a.block) ∧ n ≤ 1048576 ∧ Cur w' b ∧ Only (· = b) w w' := by
  have HSO := hide hs
  have hbw := h.lt
  have hcv := fun wx s => Lib.run_convert_string_bytes (P := Tryd.prog) wx 9 26 5 s Tryd.underlying9 Tryd.underlying26 Tryd.underlying5
  obtain ⟨A, n, c, D, m, k, rfl, rfl, -, hn, -, -, hm, hmk⟩ := hs.m
  obtain ⟨W0, hW0⟩ : ∃ W, W = w.alloc (.cells #[.slice A n c, .slice D m k] 35) := ⟨_, rfl⟩
  have hal0 : Below w.heap.size w W0 := by rw [hW0]; exact (Below.refl _ _).alloc (Nat.le_refl _) _
  have hz0 : W0.heap.size = w.heap.size + 1 := by rw [hW0]; simp
  have HARG := hide (show BoxW W0 w.heap.size (.slice A n c) (.slice D m k) from by rw [hW0]; exact BoxW.new _ _ _ _)
  have HSO0 := hide (show SchemaO B W0.heap.size W0 (.slice A n c) (.slice D m k) d from schemaO_up (HSO.out.below hal0) (Nat.le_refl _) (by omega))
  have HC0 := hide (h.keep hal0)
  have HAL0 := hide hal0
  have HW := hide hW0
  clear h hs hW0 hal0
  obtain ⟨x0, x1, f0, f1, xl⟩ := HARG.out
  rw [HW.out] at x0 x1 f0 f1 xl
  go_enter Tryd.func125, Tryd.ntmps125
  go_wp2_with (fail)
  rw [← HW.out]
  refine (l7Right_any b _ _ d B _ HC0.out HSO0.out hB).mono ?_
  rintro e w3 ⟨G, n1, c9, cls, rfl, ⟨l, hown, hE⟩, ⟨hn1, -⟩, hC, ho⟩
  have hsz3 := ho.size
  have hal : Below w3.heap.size w3 (w3.alloc (.cells #[.slice G n1 c9, .int .i64 cls] 30)) := (Below.refl _ _).alloc (Nat.le_refl _) _
  have hX := BoxW.new w3 (.slice G n1 c9) (.int .i64 cls) 30
  obtain ⟨W3, hW3⟩ : ∃ W, W = w3.alloc (.cells #[.slice G n1 c9, .int .i64 cls] 30) := ⟨_, rfl⟩
  rw [← hW3] at hal hX
  have hz3 : W3.heap.size = w3.heap.size + 1 := by rw [hW3]; simp
  have HC3 := hide (hC.keep hal)
  have HOW := hide (own_below hown hal)
  have HG3 := hide (show ∀ j, Value.ownBlock (.slice G n1 c9) = some j → W0.heap.size ≤ j ∧ j < w3.heap.size from fun j hj => hown.lt j hj)
  have HS3 := hide (show SchemaO B W0.heap.size W3 (.slice A n c) (.slice D m k) d from (HSO0.out.only ho (fun j hj => .inl (by omega))).below hal)
  have HA3 := hide ((HARG.out.only ho (by omega)).keep hal)
  have HO3 := hide (((Only.of_below (S := (· = b)) HAL0.out).trans ho).trans (Only.of_below hal))
  have HW3 := hide hW3
  have hcls : -9223372036854775808 ≤ cls ∧ cls ≤ 9223372036854775807 := by have := hE.2; omega
  clear hal hC hown ho x0 x1 f0 f1 xl HSO HSO0 HC0 hE hW3
  go_wp2_with (fail)
  rw [← HW3.out]
  refine (l1Once_any b 8 _ HC3.out (by omega)).mono ?_
  rintro e w4 ⟨t, rfl, hC4, ho4⟩
  have hX4 := hX.only ho4 (by omega)
  have hw4 := own_only HOW.out ho4 (fun j hj e => by have := HG3.out j hj; omega)
  have HS4 := hide (HS3.out.only ho4 (fun j hj => .inl (by omega)))
  have HA4 := hide (HA3.out.only ho4 (by omega))
  have HO4 := hide (HO3.out.trans ho4)
  have HC4 := hide hC4
  have hz4 := ho4.size
  clear hX HOW HS3 HA3 HO3 HC3 ho4 hC4
  cases t
  case' false =>
    obtain ⟨E, hEE⟩ : ∃ E : ExD, E = ⟨l, cls⟩ := ⟨_, rfl⟩
    have HEx := hide (show ExM w4 (.slice G n1 c9) (.int .i64 cls) E from by rw [hEE]; exact (exO_of hw4 hn1 (Nat.le_refl _) hcls).m)
    have HSc := hide HS4.out.m
    have HCu := hide HC4.out
    have HOn := hide HO4.out
    obtain ⟨y0, y1, q0, q1, yl⟩ := hX4
    obtain ⟨x0, x1, f0, f1, xl⟩ := HA4.out
    clear hw4 HS4 HC4 HO4 hEE
    go_wp2_with (fail)
  case' true =>
    obtain ⟨E, hEE⟩ : ∃ E : ExD, E = ⟨l, -1⟩ := ⟨_, rfl⟩
    have hs := (Only.refl (fun j => w3.heap.size = j) w4).setCell (p := ⟨w3.heap.size, 1, none⟩) rfl (.int .i64 (-1))
    have hlow : Below w.heap.size w4 (w4.setCell ⟨w3.heap.size, 1, none⟩ (.int .i64 (-1))) := (Below.refl _ _).setCell (p := ⟨w3.heap.size, 1, none⟩) (by show w.heap.size ≤ w3.heap.size; omega) _
    have HEx := hide (show ExM (w4.setCell ⟨w3.heap.size, 1, none⟩ (.int .i64 (-1))) (.slice G n1 c9) (.int .i64 (-1)) E from by
      rw [hEE]
      exact (exO_of (B := W0.heap.size) (own_only hw4 hs (fun j hj e => by have := HG3.out j hj; omega)) hn1 (Nat.le_refl _) (by omega)).m)
    have HSc := hide (HS4.out.only hs (fun j hj => .inr (by omega))).m
    have HCu := hide (Cur.low HC4.out hbw hlow)
    have HOn := hide (HO4.out.low hlow)
    obtain ⟨y0, y1, q0, q1, yl⟩ := hX4
    obtain ⟨x0, x1, f0, f1, xl⟩ := HA4.out
    clear hw4 HS4 HC4 HO4 hEE hs hlow
    go_wp2_with (fail)
  all_goals
    refine (specExText_any _ _ _ _ d E _ HSc.out HEx.out).mono ?_
    rintro e w6 ⟨rfl, hb6⟩
    have hts := exT_size d E
    obtain ⟨s, hs⟩ : ∃ s, s = exT d E := ⟨_, rfl⟩
    rw [← hs] at hts ⊢
    have HC6 := hide (HCu.out.keep hb6)
    have HO6 := hide (HOn.out.trans (Only.of_below hb6))
    clear hb6 hs HEx HSc HCu HOn x0 x1 f0 f1 xl y0 y1 q0 q1 yl HA4 HG3 HAL0 HARG HW HW3 hz3 hz4 hsz3 hcls
    go_wp2_with (fail)
    refine (l1Below_any b 12 _ HC6.out (by omega)).mono ?_
    rintro e w7 ⟨x, rfl, hx0, -, -, hC7, ho7⟩
    have HC7 := hide hC7
    have HO7 := hide (HO6.out.trans ho7)
    clear hC7 ho7 HC6 HO6
    have hal := (Below.refl w7.heap.size w7).alloc (Nat.le_refl _)
    rcases (show x = 0 ∨ x = 1 ∨ x = 2 ∨ x = 3 ∨ x = 4 ∨ 5 ≤ x by omega) with rfl | rfl | rfl | rfl | rfl | hx5
    · go_wp2_with (fail)
      refine (l1Pick_any b (some ⟨w7.heap.size, 0, none⟩) 3 3 rowTail _ (HC7.out.keep (hal _)) (strs_lit w7 rowTail _) (fun _ => lit_apart HC7.out) (by omega) (by omega)).mono ?_
      rintro e w8 ⟨k, hk, rfl, hC8, ho8⟩
      have HO8 := hide ((HO7.out.trans (Only.of_below (hal _))).trans ho8)
      have HC8 := hide hC8
      have hus := rowTail_size k hk
      generalize rowTail[k]?.getD ByteArray.empty = u at *
      have z1 : ¬ 9223372036854775807 < s.size + u.size := by omega
      clear ho8 hC8
      go_wp2
      go_ret
      exact row_end _ (s ++ u) (by rw [ByteArray.size_append]) HC8.out HO8.out (by omega)
    · have z1 : ¬ 9223372036854775807 < 1 + s.size := by omega
      go_wp2
      go_ret
      generalize hq : (⟨#[44]⟩ ++ s : ByteArray) = q
      have hqz : q.size = 1 + s.size := by
        rw [← hq, ByteArray.size_append, show (⟨#[44]⟩ : ByteArray).size = 1 from rfl]
      exact row_end _ q hqz HC7.out HO7.out (by omega)
    · have z1 : ¬ 9223372036854775807 < 1 + s.size := by omega
      go_wp2
      go_ret
      generalize hq : (⟨#[120]⟩ ++ s : ByteArray) = q
      have hqz : q.size = 1 + s.size := by
        rw [← hq, ByteArray.size_append, show (⟨#[120]⟩ : ByteArray).size = 1 from rfl]
      exact row_end _ q hqz HC7.out HO7.out (by omega)
    · go_wp2
      go_loopw [6] (fun sv wr => ∃ S : ByteArray, sv = .string S ∧ S.size ≤ 31000 ∧ Hid (Cur wr b) ∧ Hid (Only (· = b) w wr)) (fun sv _ => 100 - strLen sv)
      case atStart => exact ⟨s, rfl, by omega, HC7.out, HO7.out⟩
      case round =>
        clear HC7 HO7
        obtain ⟨S, rfl, hS, HC, HO⟩ := hrel
        go_wp2_with (fail)
        refine (l1Below_any b 6 _ HC.out (by omega)).mono ?_
        rintro e w8 ⟨x, rfl, hx0, hx1, -, hC8, ho8⟩
        have hx6 : x < 6 := hx1 (by omega)
        have HC8 := hide hC8
        have HO8 := hide (HO.out.trans ho8)
        clear hC8 ho8 HC HO hx1
        by_cases hlt : (S.size : Int) < 78 + x
        · have z1 : ¬ 9223372036854775807 < S.size + 1 := by omega
          have hS9 : (S ++ (⟨#[121]⟩ : ByteArray)).size = S.size + 1 := by rw [ByteArray.size_append]; rfl
          go_wp2
          go_roundw
          case rel => exact ⟨S ++ ⟨#[121]⟩, rfl, by omega, HC8, HO8⟩
          case measure => simp only [strLen]; omega
        · go_wp2
          go_ret
          exact row_end _ S rfl HC8.out HO8.out (by omega)
    · go_wp2_with (fail)
      refine (l1Pick_any b (some ⟨w7.heap.size, 0, none⟩) 10 10 rowWhole _ (HC7.out.keep (hal _)) (strs_lit w7 rowWhole _) (fun _ => lit_apart HC7.out) (by omega) (by omega)).mono ?_
      rintro e w8 ⟨k, hk, rfl, hC8, ho8⟩
      have HO8 := hide ((HO7.out.trans (Only.of_below (hal _))).trans ho8)
      have HC8 := hide hC8
      have hus := rowWhole_size k hk
      generalize rowWhole[k]?.getD ByteArray.empty = u at *
      clear ho8 hC8
      go_wp2
      go_ret
      exact row_end _ _ rfl HC8.out HO8.out (by omega)
    · have h0' : (x == 0) = false := beq_eq_false_iff_ne.2 (by omega)
      have h1' : (x == 1) = false := beq_eq_false_iff_ne.2 (by omega)
      have h2' : (x == 2) = false := beq_eq_false_iff_ne.2 (by omega)
      have h3' : (x == 3) = false := beq_eq_false_iff_ne.2 (by omega)
      have h4' : (x == 4) = false := beq_eq_false_iff_ne.2 (by omega)
      go_wp2
      go_ret
      exact row_end _ _ rfl HC7.out HO7.out (by omega)

set_option maxHeartbeats 8000000 in
theorem drawRowOf_any (A : Option Addr) (n c : Nat) (l : List UInt8) (w : World) (hl : Bytes w A n l) (hn : n ≤ 1048576) :
    Calls Tryd.prog 70 #[.slice A n c] w fun e w' => ∃ x0 x1 D m k pl, e = .returned (.tuple #[.agg #[x0, x1], .slice D m k]) ∧ (∃ d, SchemaM w' x0 x1 d) ∧ Bytes w' D m pl ∧ m ≤ 1048576 ∧ Below w.heap.size w w' := by
  have hR := BoxW.new w (.slice none 0 0) (.slice none 0 0) 35
  have hal0 : Below w.heap.size w (w.alloc (.cells #[.slice none 0 0, .slice none 0 0] 35)) := (Below.refl _ _).alloc (Nat.le_refl _) _
  obtain ⟨W1, hW1⟩ : ∃ W, W = w.alloc (.cells #[.slice none 0 0, .slice none 0 0] 35) := ⟨_, rfl⟩
  rw [← hW1] at hR hal0
  have HR := hide hR
  have HB0 := hide hal0
  have HL := hide (hl.keep hal0)
  have HW := hide hW1
  clear hl hR hal0 hW1
  go_enter Tryd.func70, Tryd.ntmps70
  go_wp2_with (fail)
  rw [← HW.out]
  refine (l1New_any A n c l _ HL.out hn).mono ?_
  rintro e w1 ⟨b, rfl, hb, hC, hB⟩
  have hz1 := hB.size
  have hrl := HR.out.lt
  replace HR := hide (HR.out.keep hB)
  have HB1 := hide (bthen HB0.out hB)
  clear hB HL HW HB0
  go_wp2_with (fail)
  refine (l5Draw_any b _ hC).mono ?_
  rintro e w2 ⟨x0, x1, rfl, ⟨d, hO, h6⟩, hC2, ho⟩
  have hbl := hC.lt
  have hz2 := ho.size
  replace HR := hide (HR.out.only ho (by omega))
  have HB2 := hide (Only.below HB1.out HB1.out.size ho (fun j hj => by omega))
  have HO := hide hO
  obtain ⟨A1, n1, c1, D1, m1, k1, rr, rfl, rfl, -⟩ := hO
  have hal : Below w2.heap.size w2 (w2.alloc (.cells #[.slice A1 n1 c1, .slice D1 m1 k1] 35)) := (Below.refl _ _).alloc (Nat.le_refl _) _
  have hX := BoxW.new w2 (.slice A1 n1 c1) (.slice D1 m1 k1) 35
  replace HO := hide (HO.out.below hal)
  have HC2 := hide (hC2.keep hal)
  replace HR := hide (HR.out.keep hal)
  have HB3 := hide (bthen HB2.out hal)
  obtain ⟨W3, hW3⟩ : ∃ W, W = w2.alloc (.cells #[.slice A1 n1 c1, .slice D1 m1 k1] 35) := ⟨_, rfl⟩
  rw [← hW3] at HR HO HC2 hX hal HB3
  have HW := hide hW3
  have hz3 := hal.size
  clear ho hC hC2 hW3 HB1 HB2
  obtain ⟨x0, x1, f0, f1, xl⟩ := id hX
  rw [HW.out] at x0 x1 f0 f1 xl
  go_wp2
  rw [← HW.out] at x0 x1 f0 f1 xl ⊢
  have HOD := hide (show SchemaO w1.heap.size W3.drew.heap.size W3.drew (.slice A1 n1 c1) (.slice D1 m1 k1) d from schemaO_up (HO.out.below (Below.refl _ W3).drew) (Nat.le_refl _) (by simp; omega))
  have HCD := hide (HC2.out.keep (Below.refl _ W3).drew)
  have HRD := hide (HR.out.keep (Below.refl _ W3).drew)
  have HXD := hide (hX.keep (Below.refl _ W3).drew)
  have HBD := hide (bthen HB3.out (Below.refl _ W3).drew)
  obtain ⟨r0, r1, h0, h1, rl⟩ := HRD.out
  go_region_law (first
    | (go_simp; go_at_call 125; refine (l7DrawRow_any b _ _ d w1.heap.size _ HCD.out HOD.out hbl).mono ?_; rintro e w5 ⟨D5, n5, m5, l5, rfl, hP5, hap5, hn5, hC5, ho5⟩; have HP5 := hide hP5; have HB5 := hide (Only.below HBD.out HBD.out.size ho5 (fun j hj => by omega)); have HO5 := hide (HOD.out.only ho5 (fun k hk => .inl (by omega))); obtain ⟨a0, a1, b0, b1, al⟩ := HRD.out.only ho5 (by omega); obtain ⟨v0, v1, g0, g1, vl⟩ := HXD.out.only ho5 (by omega); have ho5s := hide ho5.size; have HAP := hide hap5; clear hC5 ho5 hP5 hap5))
  all_goals
    go_wp2
    have hs := ((Only.refl (fun j => w.heap.size = j) w5).setCell (p := ⟨w.heap.size, 0, none⟩) rfl (.slice A1 n1 c1)).setCell (p := ⟨w.heap.size, 1, none⟩) rfl (.slice D1 m1 k1)
    have hlow := (HB5.out.setCell (p := ⟨w.heap.size, 0, none⟩) (Nat.le_refl _) (.slice A1 n1 c1)).setCell (p := ⟨w.heap.size, 1, none⟩) (Nat.le_refl _) (.slice D1 m1 k1)
    exact bodyPost_ret (v := .tuple #[.agg #[.slice A1 n1 c1, .slice D1 m1 k1], .slice D5 n5 m5]) (by simp [results, Tryd.results70, go_sem, a0, a1]) rfl
      ⟨_, _, _, _, _, l5, rfl, ⟨d, (HO5.out.only hs (fun k hk => .inl (by omega))).m⟩, HP5.out.only hs (fun _ a e q => by have := HAP.out a e; simp at this; omega), hn5, hlow⟩
end Go.Proofs.YtohodehmidbmlaaDoor
