/-
  Proved: the law FnExactRowOf returns true for every input that the row speaks of, and every argument reads as before. No condition.
-/
import Derived.Test.YtohodehmidbmlaaDoorEText
import Derived.Test.YtohodehmidbmlaaDoorPartsP
import Derived.Test.YtohodehmidbmlaaDoorNum2
import Derived.Lib.IndexMore
import Derived.Test.YtohodehmidbmlaaDoorSchemaOk2
import Derived.Test.YtohodehmidbmlaaDoorInts2
import Derived.Test.YtohodehmidbmlaaDoorNum
import Derived.Test.YtohodehmidbmlaaDoorLib
import Derived.Test.YtohodehmidbmlaaDoorSchema4
import Derived.IntWalk
import Derived.Test.YtohodehmidbmlaaDoorStrs
import Derived.Test.YtohodehmidbmlaaDoorBag
import Derived.Test.YtohodehmidbmlaaDoorInts
import Derived.Test.YtohodehmidbmlaaDoorEx
import Derived.Test.YtohodehmidbmlaaDoorApp
import Derived.Test.YtohodehmidbmlaaDoorParts
import Derived.Deep.RegionLaw
import Derived.Laws.IdiomStrings
import Derived.Laws.BytesArg
import Derived.Test.YtohodehmidbmlaaDoorEx2
import Derived.Test.YtohodehmidbmlaaDoorRows
import Derived.Test.YtohodehmidbmlaaDoorCards
import Derived.Test.YtohodehmidbmlaaDoorDoor
import Derived.Test.YtohodehmidbmlaaDoorTie
import Derived.SevenTiedAt
import Derived.Test.YtohodehmidbmlaaDoorOpen
namespace Go.Proofs.YtohodehmidbmlaaDoor
open Go.RowKit

/-- No byte of p is b. -/
def offB (b : UInt8) (p : ByteArray) : Prop := ∀ c ∈ p.data.toList, c ≠ b
theorem offB_of_noB {b : UInt8} {p : ByteArray} (h : noB b.toNat p) : offB b p := by
  intro c hc e
  obtain ⟨j, hj, rfl⟩ := List.mem_iff_getElem.1 hc
  refine h j hj ?_
  rw [List.getElem?_eq_getElem hj, Option.getD_some, e]
theorem list_split {b : UInt8} : ∀ {x y F G : List UInt8}, (∀ c ∈ x, c ≠ b) → (∀ c ∈ y, c ≠ b) → (F = [] ∨ ∃ t, F = b :: t) → (G = [] ∨ ∃ t, G = b :: t) → x ++ F = y ++ G → x = y ∧ F = G
  | [], [], F, G, _, _, _, _, h => ⟨rfl, h⟩
  | [], d :: y, F, G, _, hy, hF, _, h => by
    rcases hF with rfl | ⟨t, rfl⟩
    · simp at h
    · simp only [List.nil_append, List.cons_append, List.cons.injEq] at h
      exact (hy d (by simp) h.1.symm).elim
  | c :: x, [], F, G, hx, _, _, hG, h => by
    rcases hG with rfl | ⟨t, rfl⟩
    · simp at h
    · simp only [List.nil_append, List.cons_append, List.cons.injEq] at h
      exact (hx c (by simp) h.1).elim
  | c :: x, d :: y, F, G, hx, hy, hF, hG, h => by
    simp only [List.cons_append, List.cons.injEq] at h
    obtain ⟨rfl, h⟩ := h
    obtain ⟨rfl, rfl⟩ := list_split (fun e he => hx e (by simp [he])) (fun e he => hy e (by simp [he])) hF hG h
    exact ⟨rfl, rfl⟩
theorem tail_form (b : UInt8) (t : List ByteArray) : (t.flatMap fun y => b :: y.data.toList) = [] ∨ ∃ u, (t.flatMap fun y => b :: y.data.toList) = b :: u := by
  cases t with
  | nil => exact .inl rfl
  | cons y t => exact .inr ⟨y.data.toList ++ t.flatMap fun y => b :: y.data.toList, by simp⟩
theorem tails_eq {b : UInt8} : ∀ {t u : List ByteArray}, (∀ p ∈ t, offB b p) → (∀ p ∈ u, offB b p) → (t.flatMap fun y => b :: y.data.toList) = (u.flatMap fun y => b :: y.data.toList) → t = u
  | [], [], _, _, _ => rfl
  | [], y :: u, _, _, h => by simp at h
  | y :: t, [], _, _, h => by simp at h
  | y :: t, z :: u, ht, hu, h => by
    simp only [List.flatMap_cons, List.cons_append, List.cons.injEq, true_and] at h
    obtain ⟨h1, h2⟩ := list_split (ht y (by simp)) (hu z (by simp)) (tail_form b t) (tail_form b u) h
    rw [bytes_ext h1, tails_eq (fun p hp => ht p (by simp [hp])) (fun p hp => hu p (by simp [hp])) h2]
theorem joinP_inj {b : UInt8} {l m : List ByteArray} (hl : 0 < l.length) (hm : 0 < m.length) (h1 : ∀ p ∈ l, offB b p) (h2 : ∀ p ∈ m, offB b p) (h : joinP b l = joinP b m) : l = m := by
  match l, m, hl, hm with
  | x :: t, y :: u, _, _ =>
    obtain ⟨e1, e2⟩ := list_split (h1 x (by simp)) (h2 y (by simp)) (tail_form b t) (tail_form b u) (show x.data.toList ++ _ = y.data.toList ++ _ from h)
    rw [bytes_ext e1, tails_eq (fun p hp => h1 p (by simp [hp])) (fun p hp => h2 p (by simp [hp])) e2]
theorem joinP_joinB (b : UInt8) (l : List ByteArray) : (joinB l ⟨#[b]⟩).data.toList = joinP b l := by
  match l with
  | [] => rfl
  | x :: t =>
    rw [joinB_list, List.map_cons, Lib.join_cons, joinP]
    congr 1
    unfold Lib.joinTail
    rw [List.map_map, List.flatMap_def]
    rfl
theorem ofNat_b (b : UInt8) : UInt8.ofNat ((b.toNat : Nat) : Int).toNat = b := by simp
theorem parts_pos (s : ByteArray) (b : Int) : 0 < (parts s b).length := by simp [parts]
theorem parts_off {s : ByteArray} {b : UInt8} : ∀ p ∈ parts s b.toNat, offB b p := by
  obtain ⟨h1, -⟩ := parts_law s b.toNat ⟨by omega, by have := b.toNat_lt; omega⟩
  exact fun p hp => offB_of_noB (h1 p hp)
theorem joinB_parts (s : ByteArray) (b : UInt8) : joinB (parts s b.toNat) ⟨#[b]⟩ = s := by
  obtain ⟨-, h2⟩ := parts_law s b.toNat ⟨by omega, by have := b.toNat_lt; omega⟩
  rw [ofNat_b] at h2
  exact bytes_ext (by rw [joinP_joinB, h2])
theorem parts_joinB {b : UInt8} {l : List ByteArray} (hl : 0 < l.length) (h : ∀ p ∈ l, offB b p) : parts (joinB l ⟨#[b]⟩) b.toNat = l := by
  obtain ⟨-, h2⟩ := parts_law (joinB l ⟨#[b]⟩) b.toNat ⟨by omega, by have := b.toNat_lt; omega⟩
  rw [ofNat_b, joinP_joinB] at h2
  exact joinP_inj (parts_pos _ _) hl parts_off h h2
theorem joinB_two (b : UInt8) (x y : ByteArray) : joinB [x, y] ⟨#[b]⟩ = x ++ ⟨#[b]⟩ ++ y := by
  apply bytes_ext
  rw [joinP_joinB, app_list, app_list]
  simp [joinP]
theorem parts_two {b : UInt8} {x y : ByteArray} (hx : offB b x) (hy : offB b y) : parts (x ++ ⟨#[b]⟩ ++ y) b.toNat = [x, y] := by
  rw [← joinB_two]
  refine parts_joinB (by simp) fun p hp => ?_
  simp only [List.mem_cons, List.not_mem_nil, or_false] at hp
  rcases hp with rfl | rfl
  · exact hx
  · exact hy
theorem parts_one {b : UInt8} {s : ByteArray} (h : offB b s) : parts s b.toNat = [s] := by
  have e : s = joinB [s] ⟨#[b]⟩ := (joinB_one s _).symm
  conv => lhs; rw [e]
  refine parts_joinB (by simp) fun p hp => ?_
  rw [List.mem_singleton] at hp
  subst hp
  exact h
theorem parts_pair {s : ByteArray} {b : UInt8} (h : (parts s b.toNat).length = 2) : ∃ x y, parts s b.toNat = [x, y] ∧ s = x ++ ⟨#[b]⟩ ++ y ∧ offB b x ∧ offB b y := by
  match hp : parts s b.toNat, h with
  | [x, y], _ =>
    have ho := parts_off (s := s) (b := b)
    rw [hp] at ho
    exact ⟨x, y, rfl, by rw [← joinB_two, ← hp, joinB_parts], ho x (by simp), ho y (by simp)⟩

/-- The bytes of a joined text. -/
theorem mem_joinB {c : UInt8} {l : List ByteArray} {b : UInt8} (h : c ∈ (joinB l ⟨#[b]⟩).data.toList) : c = b ∨ ∃ p ∈ l, c ∈ p.data.toList := by
  rw [joinP_joinB] at h
  match l, h with
  | x :: t, h =>
    rw [joinP] at h
    rcases List.mem_append.1 h with h | h
    · exact .inr ⟨x, by simp, h⟩
    · obtain ⟨y, hy, h⟩ := List.mem_flatMap.1 h
      rcases List.mem_cons.1 h with h | h
      · exact .inl h
      · exact .inr ⟨y, by simp [hy], h⟩
theorem off_joinB {l : List ByteArray} {b d : UInt8} (hb : b ≠ d) (h : ∀ p ∈ l, offB d p) : offB d (joinB l ⟨#[b]⟩) := by
  intro c hc
  rcases mem_joinB hc with rfl | ⟨p, hp, h1⟩
  · exact hb
  · exact h p hp c h1
theorem off_app {x y : ByteArray} {d : UInt8} (hx : offB d x) (hy : offB d y) : offB d (x ++ y) := by
  intro c hc
  rw [app_list] at hc
  rcases List.mem_append.1 hc with h | h
  · exact hx c h
  · exact hy c h
theorem off_one {b d : UInt8} (h : b ≠ d) : offB d ⟨#[b]⟩ := by
  intro c hc
  have : c = b := by simpa using hc
  subst this
  exact h
theorem wordB_bytes {s : ByteArray} (h : wordB s = true) : ∀ c ∈ s.data.toList, 97 ≤ c.toNat ∧ c.toNat ≤ 122 := by
  unfold wordB at h
  rw [Bool.and_eq_true, List.all_eq_true] at h
  intro c hc
  have := h.2 c hc
  simp only [letB, Bool.and_eq_true, decide_eq_true_eq] at this
  omega
theorem word_off {s : ByteArray} {d : UInt8} (h : wordB s = true) (hd : d.toNat < 97 ∨ 122 < d.toNat) : offB d s := by
  intro c hc e
  have := wordB_bytes h c hc
  subst e
  omega
theorem numB_bytes (n : Int) : ∀ c ∈ (numB n).data.toList, c.toNat = 45 ∨ (48 ≤ c.toNat ∧ c.toNat ≤ 57) := by
  have key : ∀ u, ∀ c ∈ Lib.decDigits u, 48 ≤ c.toNat ∧ c.toNat ≤ 57 := by
    intro u c hc
    obtain ⟨k, hk, rfl⟩ := List.mem_iff_getElem.1 hc
    obtain ⟨d, h⟩ := Lib.digit_of_decFrom _ _ _ (decFrom_digits u) k _ (List.getElem?_eq_getElem hk)
    unfold Lib.digitVal at h
    split at h
    · assumption
    · cases h
  intro c hc
  rw [numB_list] at hc
  unfold Lib.itoa at hc
  split at hc
  · rcases List.mem_cons.1 hc with rfl | hc
    · exact .inl rfl
    · exact .inr (key _ c hc)
  · exact .inr (key _ c hc)
theorem num_off {n : Int} {d : UInt8} (h1 : d.toNat ≠ 45) (hd : d.toNat < 48 ∨ 57 < d.toNat) : offB d (numB n) := by
  intro c hc e
  have := numB_bytes n c hc
  subst e
  omega

/-- strings.Cut at one byte. -/
theorem index_one (b : UInt8) : ∀ l : List UInt8, (Lib.index l [b] = -1 ∧ ∀ c ∈ l, c ≠ b) ∨ ∃ x y, l = x ++ b :: y ∧ (∀ c ∈ x, c ≠ b) ∧ Lib.index l [b] = x.length
  | [] => .inl ⟨rfl, by simp⟩
  | c :: l => by
    by_cases hc : b = c
    · subst hc
      exact .inr ⟨[], l, rfl, by simp, by simp [Lib.index]⟩
    · rcases index_one b l with ⟨h1, h2⟩ | ⟨x, y, h1, h2, h3⟩
      · refine .inl ⟨by simp [Lib.index, hc, h1], fun d hd => ?_⟩
        rcases List.mem_cons.1 hd with rfl | hd
        · exact Ne.symm hc
        · exact h2 d hd
      · refine .inr ⟨c :: x, y, by rw [h1]; rfl, fun d hd => ?_, ?_⟩
        · rcases List.mem_cons.1 hd with rfl | hd
          · exact Ne.symm hc
          · exact h2 d hd
        · have : ¬ ((x.length : Int) = -1) := by omega
          simp [Lib.index, hc, h3, this]
/-- What strings.Cut hands back at one byte. -/
def CutP (b : UInt8) (s x y : ByteArray) (ok : Bool) : Prop := (ok = false ∧ offB b s) ∨ (ok = true ∧ s = x ++ ⟨#[b]⟩ ++ y ∧ offB b x)
theorem cutP (b : UInt8) (s : ByteArray) : CutP b s ⟨(Lib.cut s.data.toList [b]).1.toArray⟩ ⟨(Lib.cut s.data.toList [b]).2.1.toArray⟩ (Lib.cut s.data.toList [b]).2.2 := by
  rcases index_one b s.data.toList with ⟨h1, h2⟩ | ⟨x, y, h1, h2, h3⟩
  · refine .inl ⟨?_, h2⟩
    unfold Lib.cut
    rw [h1, if_neg (by omega)]
  · have e : Lib.cut s.data.toList [b] = (x, y, true) := by
      unfold Lib.cut
      rw [h3, if_pos (by omega), h1]
      simp
    rw [e]
    refine .inr ⟨rfl, bytes_ext ?_, h2⟩
    rw [app_list, app_list, h1]
    simp
end Go.Proofs.YtohodehmidbmlaaDoor
namespace Go.Proofs.YtohodehmidbmlaaDoor
open Go.RowKit

def rdS (s : ByteArray) : Int × Bool := rdI s (-9999) 9999
def numsOk (l : List ByteArray) : Bool := l.all fun s => (rdS s).2
def numsOf (l : List ByteArray) : List Int := l.map fun s => (rdS s).1
theorem rdS_num {x : Int} (h0 : -9999 ≤ x) (h1 : x ≤ 9999) : rdS (numB x) = (x, true) := rdI_yes (by omega) (by omega) (inB_iff.2 ⟨h0, h1⟩) rfl
theorem rdS_bd (s : ByteArray) : -9999 ≤ (rdS s).1 ∧ (rdS s).1 ≤ 9999 := by
  rcases rdI_or s (-9999) 9999 with h | ⟨v, hb, -, h⟩
  · rw [rdS, h]; simp
  · rw [rdS, h]; exact inB_iff.1 hb
theorem map_back {α β : Type} {l : List α} {f : α → β} {g : β → α} (h : ∀ x ∈ l, g (f x) = x) : (l.map f).map g = l := by
  induction l with
  | nil => rfl
  | cons x l ih => rw [List.map_cons, List.map_cons, h x (by simp), ih fun y hy => h y (by simp [hy])]
theorem nums_rt {l : List Int} (h : ∀ x ∈ l, -9999 ≤ x ∧ x ≤ 9999) : numsOk (l.map numB) = true ∧ numsOf (l.map numB) = l := by
  refine ⟨?_, map_back fun x hx => by rw [rdS_num (h x hx).1 (h x hx).2]⟩
  unfold numsOk
  rw [List.all_eq_true]
  intro s hs
  obtain ⟨x, hx, rfl⟩ := List.mem_map.1 hs
  rw [rdS_num (h x hx).1 (h x hx).2]
/-- The attribute that a text whose parts are p (at '=') and q (at ':') may stand for. -/
def candP (p q : List ByteArray) : Option AttrD :=
  if p.length = 2 then some ⟨p[0]?.getD ByteArray.empty, [], parts (p[1]?.getD ByteArray.empty) 44⟩
  else if q.length = 2 then (if numsOk (parts (q[1]?.getD ByteArray.empty) 44) = true then some ⟨q[0]?.getD ByteArray.empty, numsOf (parts (q[1]?.getD ByteArray.empty) 44), []⟩ else none)
  else some ⟨ByteArray.empty, [], []⟩
theorem candP_one (x y : ByteArray) (q : List ByteArray) : candP [x, y] q = some ⟨x, [], parts y 44⟩ := by unfold candP; simp
theorem candP_two {p : List ByteArray} (x y : ByteArray) (h : ¬ p.length = 2) : candP p [x, y] = if numsOk (parts y 44) = true then some ⟨x, numsOf (parts y 44), []⟩ else none := by unfold candP; simp [h]
theorem candP_none {p q : List ByteArray} (h : ¬ p.length = 2) (h2 : ¬ q.length = 2) : candP p q = some ⟨ByteArray.empty, [], []⟩ := by unfold candP; simp [h, h2]
def keepA (s : ByteArray) (c : Option AttrD) : Option AttrD := match c with
  | some a => if attrB a = true ∧ attrT a = s then some a else none
  | none => none
/-- The attribute of a text. -/
def attrOf (s : ByteArray) : Option AttrD := keepA s (candP (parts s 61) (parts s 58))
theorem keepA_some {s : ByteArray} {c : Option AttrD} {a : AttrD} (h : keepA s c = some a) : c = some a ∧ attrB a = true ∧ attrT a = s := by
  unfold keepA at h
  split at h
  · split at h
    · rename_i h2; injection h with h; subst h; exact ⟨rfl, h2⟩
    · cases h
  · cases h
theorem keepA_yes {s : ByteArray} {a : AttrD} (h1 : attrB a = true) (h2 : attrT a = s) : keepA s (some a) = some a := by
  simp [keepA, h1, h2]
theorem attrOf_some {s : ByteArray} {a : AttrD} (h : attrOf s = some a) : attrB a = true ∧ attrT a = s := (keepA_some h).2

/-- The parts of a right attribute's text. -/
theorem attrT_form {a : AttrD} (h : attrB a = true) :
    (a.cuts = [] ∧ 0 < a.vals.length ∧ attrT a = a.name ++ ⟨#[61]⟩ ++ joinB a.vals ⟨#[44]⟩ ∧ wordB a.name = true ∧ ∀ s ∈ a.vals, wordB s = true) ∨
    (a.vals = [] ∧ 0 < a.cuts.length ∧ attrT a = a.name ++ ⟨#[58]⟩ ++ joinB (a.cuts.map numB) ⟨#[44]⟩ ∧ wordB a.name = true ∧ ∀ x ∈ a.cuts, -9999 ≤ x ∧ x ≤ 9998) := by
  have hw := attrB_word h
  rcases attrB_parts h with ⟨h1, h2, h3, h4⟩ | ⟨h1, h2, h3, h4, h5⟩
  · refine .inl ⟨List.eq_nil_of_length_eq_zero h1, by omega, attrT_vals h (by omega), hw, fun s hs => ?_⟩
    have h6 := attrB_few hw h1
    rw [h] at h6
    have h7 := h6.symm
    rw [Bool.and_eq_true] at h7
    unfold wordsB at h7
    rw [Bool.and_eq_true, List.all_eq_true] at h7
    exact h7.2.1 s hs
  · refine .inr ⟨List.eq_nil_of_length_eq_zero h1, by omega, attrT_cuts h (by omega), hw, fun x hx => ?_⟩
    obtain ⟨i, hi, rfl⟩ := List.mem_iff_getElem.1 hx
    have := h5 i hi
    rwa [List.getElem?_eq_getElem hi, Option.getD_some] at this
theorem vals_off {l : List ByteArray} {d : UInt8} (h : ∀ s ∈ l, wordB s = true) (h1 : d ≠ 44) (hd : d.toNat < 97 ∨ 122 < d.toNat) : offB d (joinB l ⟨#[44]⟩) :=
  off_joinB (Ne.symm h1) fun p hp => word_off (h p hp) hd
theorem cuts_off {l : List Int} {d : UInt8} (h1 : d ≠ 44) (h2 : d.toNat ≠ 45) (hd : d.toNat < 48 ∨ 57 < d.toNat) : offB d (joinB (l.map numB) ⟨#[44]⟩) :=
  off_joinB (Ne.symm h1) fun p hp => by
    obtain ⟨x, -, rfl⟩ := List.mem_map.1 hp
    exact num_off h2 hd
theorem vals_parts {l : List ByteArray} (h0 : 0 < l.length) (h : ∀ s ∈ l, wordB s = true) : parts (joinB l ⟨#[44]⟩) 44 = l :=
  parts_joinB (b := 44) h0 fun p hp => word_off (h p hp) (by decide)
theorem cuts_parts {l : List Int} (h0 : 0 < l.length) : parts (joinB (l.map numB) ⟨#[44]⟩) 44 = l.map numB :=
  parts_joinB (b := 44) (by simpa using h0) fun p hp => by
    obtain ⟨x, -, rfl⟩ := List.mem_map.1 hp
    exact num_off (by decide) (by decide)
/-- A right attribute's text is read as it was. -/
theorem attrOf_rt {a : AttrD} (h : attrB a = true) : attrOf (attrT a) = some a := by
  have hc : candP (parts (attrT a) 61) (parts (attrT a) 58) = some a := by
    rcases attrT_form h with ⟨h1, h2, h3, h4, h5⟩ | ⟨h1, h2, h3, h4, h5⟩
    · rw [h3, show parts (a.name ++ ⟨#[61]⟩ ++ joinB a.vals ⟨#[44]⟩) 61 = [a.name, joinB a.vals ⟨#[44]⟩] from parts_two (b := 61) (word_off h4 (by decide)) (vals_off h5 (by decide) (by decide))]
      rw [candP_one, vals_parts h2 h5]
      obtain ⟨nm, cs, vs⟩ := a
      obtain rfl : cs = [] := h1
      rfl
    · rw [h3, show parts (a.name ++ ⟨#[58]⟩ ++ joinB (a.cuts.map numB) ⟨#[44]⟩) 61 = [a.name ++ ⟨#[58]⟩ ++ joinB (a.cuts.map numB) ⟨#[44]⟩] from
          parts_one (b := 61) (off_app (off_app (word_off h4 (by decide)) (off_one (by decide))) (cuts_off (by decide) (by decide) (by decide))),
        show parts (a.name ++ ⟨#[58]⟩ ++ joinB (a.cuts.map numB) ⟨#[44]⟩) 58 = [a.name, joinB (a.cuts.map numB) ⟨#[44]⟩] from parts_two (b := 58) (word_off h4 (by decide)) (cuts_off (by decide) (by decide) (by decide))]
      obtain ⟨g1, g2⟩ := nums_rt fun x hx => ⟨(h5 x hx).1, by have := (h5 x hx).2; omega⟩
      rw [candP_two _ _ (by simp), cuts_parts h2, g1, g2, if_pos rfl]
      obtain ⟨nm, cs, vs⟩ := a
      obtain rfl : vs = [] := h1
      rfl
  rw [attrOf, hc]
  exact keepA_yes h rfl
/-- Whatever finds each right attribute in its own text, and checks what it found, reads as the reference does. -/
theorem keepA_any {s : ByteArray} {c : Option AttrD} (h : ∀ a, attrB a = true → attrT a = s → c = some a) : keepA s c = attrOf s := by
  rcases hk : attrOf s with _ | a
  · rcases hc : keepA s c with _ | b
    · rfl
    · obtain ⟨-, h1, h2⟩ := keepA_some hc
      have := attrOf_rt h1
      rw [h2, hk] at this
      cases this
  · obtain ⟨h1, h2⟩ := attrOf_some hk
    rw [h a h1 h2]
    exact keepA_yes h1 h2
/-- The attribute that the program's cuts of a text may stand for. -/
def candC (ok1 ok2 : Bool) (x1 y1 x2 y2 : ByteArray) : Option AttrD :=
  if ok1 = true then some ⟨x1, [], parts y1 44⟩
  else if ok2 = true then (if numsOk (parts y2 44) = true then some ⟨x2, numsOf (parts y2 44), []⟩ else none)
  else some ⟨ByteArray.empty, [], []⟩
theorem cut_at {b : UInt8} {s x y u v : ByteArray} {ok : Bool} (h : CutP b s x y ok) (hs : s = u ++ ⟨#[b]⟩ ++ v) (hu : offB b u) : ok = true ∧ x = u ∧ y = v := by
  rcases h with ⟨-, h⟩ | ⟨rfl, h, hx⟩
  · refine (h b ?_ rfl).elim
    rw [hs, app_list, app_list]; simp
  · refine ⟨rfl, ?_⟩
    have e : x.data.toList ++ b :: y.data.toList = u.data.toList ++ b :: v.data.toList := by
      have := congrArg (fun z : ByteArray => z.data.toList) (h.symm.trans hs)
      simpa [app_list] using this
    obtain ⟨e1, e2⟩ := list_split hx hu (.inr ⟨_, rfl⟩) (.inr ⟨_, rfl⟩) e
    injection e2 with _ e2
    exact ⟨bytes_ext e1, bytes_ext e2⟩
theorem cut_off {b : UInt8} {s x y : ByteArray} {ok : Bool} (h : CutP b s x y ok) (hs : offB b s) : ok = false := by
  rcases h with ⟨h, -⟩ | ⟨rfl, h, hx⟩
  · exact h
  · refine (hs b ?_ rfl).elim
    rw [h, app_list, app_list]; simp
theorem candC_rt {s x1 y1 x2 y2 : ByteArray} {ok1 ok2 : Bool} (h1 : CutP 61 s x1 y1 ok1) (h2 : CutP 58 s x2 y2 ok2) : keepA s (candC ok1 ok2 x1 y1 x2 y2) = attrOf s := by
  refine keepA_any fun a ha hs => ?_
  subst hs
  rcases attrT_form ha with ⟨g1, g2, g3, g4, g5⟩ | ⟨g1, g2, g3, g4, g5⟩
  · obtain ⟨rfl, rfl, rfl⟩ := cut_at h1 g3 (word_off g4 (by decide))
    unfold candC
    rw [if_pos rfl, vals_parts g2 g5]
    obtain ⟨nm, cs, vs⟩ := a
    obtain rfl : cs = [] := g1
    rfl
  · obtain rfl := cut_off h1 (by rw [g3]; exact off_app (off_app (word_off g4 (by decide)) (off_one (by decide))) (cuts_off (by decide) (by decide) (by decide)))
    obtain ⟨rfl, rfl, rfl⟩ := cut_at h2 g3 (word_off g4 (by decide))
    obtain ⟨k1, k2⟩ := nums_rt fun x hx => ⟨(g5 x hx).1, by have := (g5 x hx).2; omega⟩
    unfold candC
    rw [if_neg (by simp), if_pos rfl, cuts_parts g2, k1, k2, if_pos rfl]
    obtain ⟨nm, cs, vs⟩ := a
    obtain rfl : vs = [] := g1
    rfl

/-! Schemas. -/
def attrsOk (l : List ByteArray) : Bool := l.all fun s => (attrOf s).isSome
def attrsOf (l : List ByteArray) : List AttrD := l.map fun s => (attrOf s).getD default
def keepS (d : SchemaD) : Option SchemaD := if schemaB d = true then some d else none
/-- The schema of a front and a back. -/
def schemaFB (x y : ByteArray) : Option SchemaD := if attrsOk (parts x 59) = true then keepS ⟨attrsOf (parts x 59), parts y 44⟩ else none
/-- The schema of a text. -/
def schemaOf (s : ByteArray) : Option SchemaD := if (parts s 124).length = 2 then schemaFB ((parts s 124)[0]?.getD ByteArray.empty) ((parts s 124)[1]?.getD ByteArray.empty) else none
theorem attrT_off {a : AttrD} {d : UInt8} (h : attrB a = true) (h1 : d ≠ 44) (h2 : d.toNat ≠ 45) (h3 : d.toNat < 48 ∨ 122 < d.toNat ∨ d = 59) : offB d (attrT a) := by
  have hd : d ≠ 61 ∧ d ≠ 58 ∧ (d.toNat < 97 ∨ 122 < d.toNat) ∧ (d.toNat < 48 ∨ 57 < d.toNat) := by
    rcases h3 with h | h | rfl
    · refine ⟨fun e => by subst e; simp at h, fun e => by subst e; simp at h, by omega, by omega⟩
    · refine ⟨fun e => by subst e; simp at h, fun e => by subst e; simp at h, by omega, by omega⟩
    · decide
  obtain ⟨d1, d2, d3, d4⟩ := hd
  rcases attrT_form h with ⟨g1, g2, g3, g4, g5⟩ | ⟨g1, g2, g3, g4, g5⟩
  · rw [g3]; exact off_app (off_app (word_off g4 d3) (off_one (Ne.symm d1))) (vals_off g5 h1 d3)
  · rw [g3]; exact off_app (off_app (word_off g4 d3) (off_one (Ne.symm d2))) (cuts_off h1 h2 d4)
theorem attrs_rt {l : List AttrD} (h : ∀ a ∈ l, attrB a = true) : attrsOk (l.map attrT) = true ∧ attrsOf (l.map attrT) = l := by
  refine ⟨?_, map_back fun x hx => by rw [attrOf_rt (h x hx)]; rfl⟩
  unfold attrsOk
  rw [List.all_eq_true]
  intro s hs
  obtain ⟨x, hx, rfl⟩ := List.mem_map.1 hs
  rw [attrOf_rt (h x hx)]
  rfl
theorem schemaB_words' {d : SchemaD} (h : schemaB d = true) : ∀ s ∈ d.classes, wordB s = true := by
  unfold schemaB at h
  simp only [Bool.and_eq_true] at h
  have h2 := h.2.2.1
  unfold wordsB at h2
  rw [Bool.and_eq_true, List.all_eq_true] at h2
  exact h2.1
theorem schemaT_form {d : SchemaD} (h : schemaB d = true) : parts (schemaT d) 124 = [joinB (d.attrs.map attrT) ⟨#[59]⟩, joinB d.classes ⟨#[44]⟩] ∧ parts (joinB (d.attrs.map attrT) ⟨#[59]⟩) 59 = d.attrs.map attrT ∧ parts (joinB d.classes ⟨#[44]⟩) 44 = d.classes := by
  obtain ⟨h1, h2, -, h3⟩ := schemaB_parts h
  have hw := schemaB_words' h
  refine ⟨?_, ?_, vals_parts (by omega) hw⟩
  · rw [schemaT_yes h]
    exact parts_two (b := 124) (off_joinB (by decide) fun p hp => by
      obtain ⟨a, ha, rfl⟩ := List.mem_map.1 hp
      exact attrT_off (h3 a ha) (by decide) (by decide) (by decide)) (vals_off hw (by decide) (by decide))
  · refine parts_joinB (b := 59) (by rw [List.length_map]; omega) fun p hp => ?_
    obtain ⟨a, ha, rfl⟩ := List.mem_map.1 hp
    exact attrT_off (h3 a ha) (by decide) (by decide) (by decide)
/-- A right schema's text is read as it was. -/
theorem schemaOf_rt {d : SchemaD} (h : schemaB d = true) : schemaOf (schemaT d) = some d := by
  obtain ⟨h1, h2, h3⟩ := schemaT_form h
  obtain ⟨-, -, -, h4⟩ := schemaB_parts h
  obtain ⟨g1, g2⟩ := attrs_rt h4
  unfold schemaOf schemaFB keepS
  rw [h1]
  simp [h2, h3, g1, g2, h]
theorem schemaOf_empty : schemaOf ⟨#[]⟩ = none := by
  have e : parts (⟨#[]⟩ : ByteArray) 124 = [⟨#[]⟩] := parts_one (b := 124) (by intro c hc; simp at hc)
  unfold schemaOf
  rw [e, if_neg (by simp)]
theorem attrs_join {l : List ByteArray} (h : attrsOk l = true) : (attrsOf l).map attrT = l := by
  induction l with
  | nil => rfl
  | cons x l ih =>
    unfold attrsOk at h ih
    rw [List.all_cons, Bool.and_eq_true] at h
    obtain ⟨a, ha⟩ := Option.isSome_iff_exists.1 h.1
    have e : attrsOf (x :: l) = (attrOf x).getD default :: attrsOf l := rfl
    rw [e, List.map_cons, ih h.2, ha, Option.getD_some, (attrOf_some ha).2]
/-- A text that is read as a schema is that schema's. -/
theorem schemaOf_some {s : ByteArray} {d : SchemaD} (h : schemaOf s = some d) : schemaB d = true ∧ schemaT d = s := by
  unfold schemaOf at h
  split at h
  · rename_i h2
    obtain ⟨x, y, hp, hs, hx, hy⟩ := parts_pair (s := s) (b := 124) h2
    have hp' : parts s 124 = [x, y] := hp
    rw [hp'] at h
    simp only [List.getElem?_cons_zero, List.getElem?_cons_succ, Option.getD_some] at h
    unfold schemaFB at h
    split at h
    · rename_i ho
      unfold keepS at h
      split at h
      · rename_i hb
        injection h with h
        subst h
        refine ⟨hb, ?_⟩
        rw [schemaT_yes hb]
        simp only [attrs_join ho]
        rw [show joinB (parts x 59) ⟨#[59]⟩ = x from joinB_parts x 59, show joinB (parts y 44) ⟨#[44]⟩ = y from joinB_parts y 44, hs]
      · cases h
    · cases h
  · cases h
/-- What the program reads. -/
def schemaC (ok : Bool) (x y : ByteArray) : Option SchemaD := if ok = true then schemaFB x y else none
theorem schemaB_bar {d : SchemaD} {p : ByteArray} (hp : p ∈ d.classes) (h : (124 : UInt8) ∈ p.data.toList) : schemaB d = false := by
  rcases hb : schemaB d with _ | _
  · rfl
  · exact (word_off (schemaB_words' hb p hp) (d := 124) (by decide) 124 h rfl).elim
theorem schemaC_eq {s x y : ByteArray} {ok : Bool} (h : CutP 124 s x y ok) : schemaC ok x y = schemaOf s := by
  rcases h with ⟨rfl, h⟩ | ⟨rfl, h, hx⟩
  · have e : parts s 124 = [s] := parts_one (b := 124) h
    unfold schemaC schemaOf
    rw [e, if_neg (by simp), if_neg (by simp)]
  · unfold schemaC
    rw [if_pos rfl]
    by_cases hy : offB 124 y
    · have e : parts s 124 = [x, y] := by rw [h]; exact parts_two (b := 124) hx hy
      unfold schemaOf
      rw [e]
      simp
    · have e : ¬ (parts s 124).length = 2 := fun e => by
        obtain ⟨u, v, -, hs, hu, hv⟩ := parts_pair (s := s) (b := 124) e
        have hc : CutP 124 s x y true := .inr ⟨rfl, h, hx⟩
        obtain ⟨-, -, rfl⟩ := cut_at hc hs hu
        exact hy hv
      unfold schemaOf
      rw [if_neg e]
      unfold schemaFB
      split
      · unfold keepS
        rw [if_neg]
        intro hb
        unfold offB at hy
        simp only [Classical.not_forall, Classical.not_not, exists_prop] at hy
        obtain ⟨c, hc, rfl⟩ := hy
        rw [← show joinB (parts y 44) ⟨#[44]⟩ = y from joinB_parts y 44] at hc
        rcases mem_joinB hc with hc | ⟨p, hp, hc⟩
        · cases hc
        · rw [schemaB_bar (d := ⟨_, parts y 44⟩) hp hc] at hb
          cases hb
      · rfl
end Go.Proofs.YtohodehmidbmlaaDoor
namespace Go.Proofs.YtohodehmidbmlaaDoor
open Go.RowKit

abbrev quest : ByteArray := ⟨#[63]⟩
theorem idxI_bd {α : Type} (p : α → Bool) (l : List α) : -1 ≤ idxI p l ∧ idxI p l ≤ (l.length : Int) - 1 := by
  unfold idxI
  split
  · rename_i i h
    obtain ⟨h1, -⟩ := List.findIdx?_eq_some_iff_getElem.1 h
    omega
  · omega
/-- The bin of a cell's text, and whether there is one. -/
def cellP (a : AttrD) (s : ByteArray) : Int × Bool :=
  if s = quest then (-1, true) else if 0 < a.vals.length then (idxI (fun y => decide (s = y)) a.vals, decide (0 ≤ idxI (fun y => decide (s = y)) a.vals)) else ((binI a.cuts (rdS s).1 : Int), (rdS s).2)
theorem cellP_q {a : AttrD} {s : ByteArray} (h : s = quest) : cellP a s = (-1, true) := by unfold cellP; rw [if_pos h]
theorem cellP_val {a : AttrD} {s : ByteArray} (h : ¬ s = quest) (hv : 0 < a.vals.length) : cellP a s = (idxI (fun y => decide (s = y)) a.vals, decide (0 ≤ idxI (fun y => decide (s = y)) a.vals)) := by unfold cellP; rw [if_neg h, if_pos hv]
theorem cellP_cut {a : AttrD} {s : ByteArray} (h : ¬ s = quest) (hv : ¬ 0 < a.vals.length) : cellP a s = ((binI a.cuts (rdS s).1 : Int), (rdS s).2) := by unfold cellP; rw [if_neg h, if_neg hv]
theorem cellP_bd {a : AttrD} {s : ByteArray} (h : attrB a = true) : -1 ≤ (cellP a s).1 ∧ (cellP a s).1 ≤ binsOf a - 1 := by
  have hb := binsOf_bd a
  rcases attrB_parts h with ⟨h1, h2, h3, h4⟩ | ⟨h1, h2, h3, h4, h5⟩
  · by_cases hq : s = quest
    · rw [cellP_q hq]; simp; omega
    · rw [cellP_val hq (by omega), h4]
      exact idxI_bd _ _
  · by_cases hq : s = quest
    · rw [cellP_q hq]; simp; omega
    · rw [cellP_cut hq (by omega), h4]
      have := binI_le a.cuts (rdS s).1
      simp only
      omega
def rowOkAt (d : SchemaD) (cells : List ByteArray) (i : Nat) : Bool := (cellP (d.attrs[i]?.getD default) (cells[i]?.getD ByteArray.empty)).2
def rowBins (d : SchemaD) (cells : List ByteArray) (k : Nat) : List Int := (List.range k).map fun i => (cellP (d.attrs[i]?.getD default) (cells[i]?.getD ByteArray.empty)).1
theorem rowBins_snoc (d : SchemaD) (cells : List ByteArray) (k : Nat) : rowBins d cells (k + 1) = rowBins d cells k ++ [(cellP (d.attrs[k]?.getD default) (cells[k]?.getD ByteArray.empty)).1] := by
  unfold rowBins; simp [List.range_succ]
theorem rowBins_len (d : SchemaD) (cells : List ByteArray) (k : Nat) : (rowBins d cells k).length = k := by simp [rowBins]
def exNone : ExD := ⟨[], 0⟩
def clsP (d : SchemaD) (s : ByteArray) : Int := idxI (fun y => decide (s = y)) d.classes
/-- What the cells and the class give. -/
def rowCells (d : SchemaD) (cells : List ByteArray) (cl : ByteArray) : ExD × Int × Int :=
  match (List.range cells.length).find? (fun i => !rowOkAt d cells i) with
  | some i => (exNone, 5, i)
  | none => if clsP d cl < 0 ∧ ¬ cl = quest then (exNone, 6, 0) else (⟨rowBins d cells cells.length, clsP d cl⟩, 0, 0)
/-- What a row gives: an example, a reason, a place. -/
def rowOf (d : SchemaD) (row : ByteArray) : ExD × Int × Int :=
  if schemaB d = false then (exNone, 1, 0) else if 80 < row.size then (exNone, 2, 0)
  else if ¬ (parts row 124).length = 2 then (exNone, 3, 0)
  else if ¬ (parts ((parts row 124)[0]?.getD ByteArray.empty) 44).length = d.attrs.length then (exNone, 4, 0)
  else rowCells d (parts ((parts row 124)[0]?.getD ByteArray.empty) 44) ((parts row 124)[1]?.getD ByteArray.empty)
section
variable {d : SchemaD} {row : ByteArray}
theorem rowOf_schema (h : schemaB d = false) : rowOf d row = (exNone, 1, 0) := by unfold rowOf; rw [if_pos h]
theorem rowOf_long (h : schemaB d = true) (h2 : 80 < row.size) : rowOf d row = (exNone, 2, 0) := by unfold rowOf; rw [if_neg (by simp [h]), if_pos h2]
theorem rowOf_bar (h : schemaB d = true) (h2 : ¬ 80 < row.size) (h3 : ¬ (parts row 124).length = 2) : rowOf d row = (exNone, 3, 0) := by unfold rowOf; rw [if_neg (by simp [h]), if_neg h2, if_pos h3]
theorem rowOf_count (h : schemaB d = true) (h2 : ¬ 80 < row.size) (h3 : (parts row 124).length = 2) (h4 : ¬ (parts ((parts row 124)[0]?.getD ByteArray.empty) 44).length = d.attrs.length) : rowOf d row = (exNone, 4, 0) := by
  unfold rowOf; rw [if_neg (by simp [h]), if_neg h2, if_neg (by simp [h3]), if_pos h4]
theorem rowOf_cells (h : schemaB d = true) (h2 : ¬ 80 < row.size) (h3 : (parts row 124).length = 2) (h4 : (parts ((parts row 124)[0]?.getD ByteArray.empty) 44).length = d.attrs.length) : rowOf d row = rowCells d (parts ((parts row 124)[0]?.getD ByteArray.empty) 44) ((parts row 124)[1]?.getD ByteArray.empty) := by
  unfold rowOf; rw [if_neg (by simp [h]), if_neg h2, if_neg (by simp [h3]), if_neg (by simp [h4])]
end
theorem find_bad {p : Nat → Bool} {n k : Nat} (hk : k < n) (h : (List.range k).all p = true) (hb : p k = false) : (List.range n).find? (fun i => !p i) = some k := by
  rw [List.find?_range_eq_some]
  refine ⟨by simp [hb], by simpa using hk, fun j hj => ?_⟩
  rw [List.all_eq_true] at h
  simp [h j (by simpa using hj)]
theorem find_none {p : Nat → Bool} {n : Nat} (h : (List.range n).all p = true) : (List.range n).find? (fun i => !p i) = none := by
  rw [List.find?_eq_none]
  rw [List.all_eq_true] at h
  intro x hx
  simp [h x hx]
theorem rowCells_bad {d : SchemaD} {cells : List ByteArray} {cl : ByteArray} {k : Nat} (hk : k < cells.length) (h : (List.range k).all (rowOkAt d cells) = true) (hb : rowOkAt d cells k = false) : rowCells d cells cl = (exNone, 5, (k : Int)) := by
  unfold rowCells; rw [find_bad hk h hb]
theorem rowCells_cls {d : SchemaD} {cells : List ByteArray} {cl : ByteArray} (h : (List.range cells.length).all (rowOkAt d cells) = true) (h1 : clsP d cl < 0) (h2 : ¬ cl = quest) : rowCells d cells cl = (exNone, 6, 0) := by
  unfold rowCells; rw [find_none h]; simp only [if_pos (And.intro h1 h2)]
theorem rowCells_ok {d : SchemaD} {cells : List ByteArray} {cl : ByteArray} (h : (List.range cells.length).all (rowOkAt d cells) = true) (h1 : ¬ (clsP d cl < 0 ∧ ¬ cl = quest)) : rowCells d cells cl = (⟨rowBins d cells cells.length, clsP d cl⟩, 0, 0) := by
  unfold rowCells; rw [find_none h]; simp only [if_neg h1]
theorem quest_noword : wordB quest = false := by decide
theorem clsP_q {d : SchemaD} (h : schemaB d = true) : clsP d quest = -1 := by
  refine idxI_none fun x hx => ?_
  rw [decide_eq_false_iff_not]
  rintro rfl
  have := schemaB_words' h _ hx
  rw [quest_noword] at this
  cases this
theorem attr_at {d : SchemaD} (h : schemaB d = true) {i : Nat} (hi : i < d.attrs.length) : attrB (d.attrs[i]?.getD default) = true := by
  obtain ⟨-, -, -, h4⟩ := schemaB_parts h
  rw [getD_of_lt hi]
  exact h4 _ (List.getElem_mem hi)
/-- A row is read as a right example, or refused with one reason. -/
theorem rowOf_law (d : SchemaD) (row : ByteArray) :
    ((rowOf d row).2.1 = 0 ∧ (rowOf d row).2.2 = 0 ∧ exB d (rowOf d row).1 = true ∧ schemaB d = true) ∨
    ((rowOf d row).1 = exNone ∧ 1 ≤ (rowOf d row).2.1 ∧ (rowOf d row).2.1 ≤ 6 ∧ 0 ≤ (rowOf d row).2.2 ∧ ((rowOf d row).2.2 = 0 ∨ ((rowOf d row).2.1 = 5 ∧ (rowOf d row).2.2 < d.attrs.length)) ∧ ((rowOf d row).2.1 = 1 ↔ schemaB d = false)) := by
  rcases hs : schemaB d with _ | _
  · rw [rowOf_schema hs]
    exact .inr ⟨rfl, by simp, by simp, by simp, .inl rfl, by simp⟩
  · by_cases h2 : 80 < row.size
    · rw [rowOf_long hs h2]
      exact .inr ⟨rfl, by simp, by simp, by simp, .inl rfl, by simp⟩
    · by_cases h3 : (parts row 124).length = 2
      · by_cases h4 : (parts ((parts row 124)[0]?.getD ByteArray.empty) 44).length = d.attrs.length
        · rw [rowOf_cells hs h2 h3 h4]
          generalize hC : parts ((parts row 124)[0]?.getD ByteArray.empty) 44 = cells at *
          generalize (parts row 124)[1]?.getD ByteArray.empty = cl
          rcases ha : (List.range cells.length).find? (fun i => !rowOkAt d cells i) with _ | i
          · have hall : (List.range cells.length).all (rowOkAt d cells) = true := by
              rw [List.find?_eq_none] at ha
              rw [List.all_eq_true]
              intro x hx
              simpa using ha x hx
            by_cases h1 : clsP d cl < 0 ∧ ¬ cl = quest
            · rw [rowCells_cls hall h1.1 h1.2]
              exact .inr ⟨rfl, by simp, by simp, by simp, .inl rfl, by simp⟩
            · rw [rowCells_ok hall h1]
              refine .inl ⟨rfl, rfl, exB_all hs ?_ ?_ ?_, rfl⟩
              · show (rowBins d cells cells.length).length = _
                rw [rowBins_len, h4]
              · have := idxI_bd (fun y => decide (cl = y)) d.classes
                exact inB_iff.2 this
              · show (List.range (rowBins d cells cells.length).length).all _ = true
                rw [rowBins_len, List.all_eq_true]
                intro i hi
                have hi' : i < cells.length := by simpa using hi
                have e : (rowBins d cells cells.length)[i]?.getD 0 = (cellP (d.attrs[i]?.getD default) (cells[i]?.getD ByteArray.empty)).1 := by simp [rowBins, hi']
                unfold fitB
                rw [show (⟨rowBins d cells cells.length, clsP d cl⟩ : ExD).bins = rowBins d cells cells.length from rfl, e]
                exact inB_iff.2 (cellP_bd (attr_at hs (by omega)))
          · have hi := List.mem_of_find?_eq_some ha
            have hi' : i < cells.length := by simpa using hi
            have e : rowCells d cells cl = (exNone, 5, (i : Int)) := by unfold rowCells; rw [ha]
            rw [e]
            exact .inr ⟨rfl, by simp, by simp, by simp, .inr ⟨rfl, by simp only; omega⟩, by simp⟩
        · rw [rowOf_count hs h2 h3 h4]
          exact .inr ⟨rfl, by simp, by simp, by simp, .inl rfl, by simp⟩
      · rw [rowOf_bar hs h2 h3]
        exact .inr ⟨rfl, by simp, by simp, by simp, .inl rfl, by simp⟩

/-! An example's text is read as it was. -/
theorem ascB_three {l : List Int} (h : ascB l = true) (hn : l.length ≤ 3) {b : Nat} (hb : b < l.length) : binI l (l[b]?.getD 0) = b := by
  rw [ascB_iff] at h
  match l, hn with
  | [], _ => simp at hb
  | [x], _ =>
    obtain rfl : b = 0 := by simp at hb; omega
    simp [binI]
  | [x, y], _ =>
    have h0 := h 0 (by simp)
    simp at h0
    rcases (show b = 0 ∨ b = 1 by simp at hb; omega) with rfl | rfl
    · simp [binI, List.filter_cons]; omega
    · simp [binI, h0]
  | [x, y, z], _ =>
    have h0 := h 0 (by simp)
    have h1 := h 1 (by simp)
    simp at h0 h1
    rcases (show b = 0 ∨ b = 1 ∨ b = 2 by simp at hb; omega) with rfl | rfl | rfl
    · have e1 : ¬ y < x := by omega
      have e2 : ¬ z < x := by omega
      simp [binI, e1, e2]
    · have e2 : ¬ z < y := by omega
      simp [binI, h0, e2]
    · have e2 : x < z := by omega
      simp [binI, h1, e2]
  | _ :: _ :: _ :: _ :: _, hn => simp at hn
theorem ascB_last {l : List Int} (h : ascB l = true) (hn : l.length ≤ 3) (h0 : 0 < l.length) : binI l (l[l.length - 1]?.getD 0 + 1) = l.length := by
  rw [ascB_iff] at h
  match l, hn with
  | [], _ => simp at h0
  | [x], _ =>
    have e : x < x + 1 := by omega
    simp [binI, e]
  | [x, y], _ =>
    have h0 := h 0 (by simp)
    simp at h0
    have e1 : x < y + 1 := by omega
    have e2 : y < y + 1 := by omega
    simp [binI, e1, e2]
  | [x, y, z], _ =>
    have h0 := h 0 (by simp)
    have h1 := h 1 (by simp)
    simp at h0 h1
    have e1 : x < z + 1 := by omega
    have e2 : y < z + 1 := by omega
    have e3 : z < z + 1 := by omega
    simp [binI, e1, e2, e3]
  | _ :: _ :: _ :: _ :: _, hn => simp at hn
theorem idx_nodup {l : List ByteArray} (h : l.Nodup) {b : Nat} (hb : b < l.length) : idxI (fun y => decide ((l[b]?.getD ByteArray.empty) = y)) l = b := by
  refine idxI_hit ByteArray.empty hb (by simp) fun y hy => ?_
  rw [decide_eq_false_iff_not]
  rintro rfl
  rw [List.mem_take_iff_getElem] at hy
  obtain ⟨j, hj, e⟩ := hy
  rw [List.getElem?_eq_getElem hb, Option.getD_some] at e
  exact (List.pairwise_iff_getElem.1 (show l.Pairwise (· ≠ ·) from h)) j b (by omega) hb (by omega) e
theorem attrB_nodup {a : AttrD} (h : attrB a = true) (hc : a.cuts.length = 0) : a.vals.Nodup ∧ ∀ s ∈ a.vals, wordB s = true := by
  have h1 := attrB_few (attrB_word h) hc
  rw [h] at h1
  have h2 := h1.symm
  rw [Bool.and_eq_true] at h2
  unfold wordsB at h2
  rw [Bool.and_eq_true, List.all_eq_true, decide_eq_true_eq] at h2
  exact ⟨h2.2.2, h2.2.1⟩
theorem attrB_asc {a : AttrD} (h : attrB a = true) (hc : a.cuts.length ≠ 0) : ascB a.cuts = true := by
  have h1 := attrB_cuts (attrB_word h) hc
  rw [h] at h1
  have h2 := h1.symm
  rw [Bool.and_eq_true] at h2
  unfold cutsB at h2
  rw [Bool.and_eq_true, Bool.and_eq_true] at h2
  exact h2.2.2.1
theorem num_noq (x : Int) : ¬ numB x = quest := by
  intro h
  have := numB_bytes x 63 (by rw [h]; simp)
  simp at this
theorem word_noq {s : ByteArray} (h : wordB s = true) : ¬ s = quest := by
  rintro rfl
  rw [quest_noword] at h
  cases h
/-- A cell's text leads to its bin. -/
theorem cell_rt {a : AttrD} {b : Int} (h : attrB a = true) (hb : inB b (-1) (binsOf a - 1) = true) : cellP a (cellT a b) = (b, true) := by
  have hb2 := inB_iff.1 hb
  by_cases h1 : b = -1
  · rw [cellT_open h hb h1, cellP_q rfl, h1]
  · rcases attrB_parts h with ⟨g1, g2, g3, g4⟩ | ⟨g1, g2, g3, g4, g5⟩
    · obtain ⟨k1, k2⟩ := attrB_nodup h g1
      have hlt : b.toNat < a.vals.length := by omega
      have hw : wordB (a.vals[b.toNat]?.getD ByteArray.empty) = true := by
        rw [List.getElem?_eq_getElem hlt, Option.getD_some]; exact k2 _ (List.getElem_mem hlt)
      rw [cellT_val h hb h1 (by omega), cellP_val (word_noq hw) (by omega), idx_nodup k1 hlt]
      have : ((b.toNat : Nat) : Int) = b := by omega
      rw [this, decide_eq_true (by omega)]
    · have ha := attrB_asc h (by omega)
      by_cases hc : b < a.cuts.length
      · have hlt : b.toNat < a.cuts.length := by omega
        have hr := g5 _ hlt
        rw [cellT_cut h hb h1 (by omega) hc, cellP_cut (num_noq _) (by omega), rdS_num hr.1 (by omega)]
        simp only
        rw [ascB_three ha g3 hlt]
        congr 1
        omega
      · have hr := g5 (a.cuts.length - 1) (by omega)
        rw [cellT_end h hb h1 (by omega) hc, cellP_cut (num_noq _) (by omega), rdS_num (by omega) (by omega)]
        simp only
        rw [ascB_last ha g3 (by omega)]
        congr 1
        omega
theorem cell_off {a : AttrD} {b : Int} (h : attrB a = true) (hb : inB b (-1) (binsOf a - 1) = true) {d : UInt8} (hd : d = 44 ∨ d = 124) : offB d (cellT a b) := by
  have hb2 := inB_iff.1 hb
  have hq : offB d quest := off_one (by rcases hd with rfl | rfl <;> decide)
  have hn : ∀ x, offB d (numB x) := fun x => by rcases hd with rfl | rfl <;> exact num_off (by decide) (by decide)
  by_cases h1 : b = -1
  · rw [cellT_open h hb h1]; exact hq
  · rcases attrB_parts h with ⟨g1, g2, g3, g4⟩ | ⟨g1, g2, g3, g4, g5⟩
    · obtain ⟨k1, k2⟩ := attrB_nodup h g1
      have hlt : b.toNat < a.vals.length := by omega
      rw [cellT_val h hb h1 (by omega), List.getElem?_eq_getElem hlt, Option.getD_some]
      exact word_off (k2 _ (List.getElem_mem hlt)) (by rcases hd with rfl | rfl <;> decide)
    · by_cases hc : b < a.cuts.length
      · rw [cellT_cut h hb h1 (by omega) hc]; exact hn _
      · rw [cellT_end h hb h1 (by omega) hc]; exact hn _
theorem cell_small {a : AttrD} {b : Int} (h : attrB a = true) (hb : inB b (-1) (binsOf a - 1) = true) : (cellT a b).size ≤ 8 := by
  have hb2 := inB_iff.1 hb
  by_cases h1 : b = -1
  · rw [cellT_open h hb h1]; decide
  · rcases attrB_parts h with ⟨g1, g2, g3, g4⟩ | ⟨g1, g2, g3, g4, g5⟩
    · have hlt : b.toNat < a.vals.length := by omega
      rw [cellT_val h hb h1 (by omega), List.getElem?_eq_getElem hlt, Option.getD_some]
      exact (attrB_words h g1 _ (List.getElem_mem hlt)).2
    · by_cases hc : b < a.cuts.length
      · have hr := g5 b.toNat (by omega)
        rw [cellT_cut h hb h1 (by omega) hc]
        have := numB_size5 (v := a.cuts[b.toNat]?.getD 0) (by omega) (by omega) rfl
        omega
      · have hr := g5 (a.cuts.length - 1) (by omega)
        rw [cellT_end h hb h1 (by omega) hc]
        have := numB_size5 (v := a.cuts[a.cuts.length - 1]?.getD 0 + 1) (by omega) (by omega) rfl
        omega
theorem exB_at {d : SchemaD} {e : ExD} (h : exB d e = true) {i : Nat} (hi : i < d.attrs.length) : inB (e.bins[i]?.getD 0) (-1) (binsOf (d.attrs[i]?.getD default) - 1) = true := by
  obtain ⟨-, h2, -, h4⟩ := exB_parts h
  exact h4 i (by omega)
theorem clsT_rt {d : SchemaD} {e : ExD} (h : exB d e = true) : clsP d (clsT d e) = e.cls ∧ (e.cls < 0 → clsT d e = quest) ∧ offB 124 (clsT d e) := by
  obtain ⟨h1, -, h3, -⟩ := exB_parts h
  by_cases hc : 0 ≤ e.cls
  · have hlt : e.cls.toNat < d.classes.length := by omega
    have hn : d.classes.Nodup := by
      unfold schemaB at h1
      simp only [Bool.and_eq_true] at h1
      have h2 := h1.2.2.1
      unfold wordsB at h2
      rw [Bool.and_eq_true, decide_eq_true_eq] at h2
      exact h2.2
    unfold clsT
    rw [if_pos hc]
    refine ⟨?_, fun h => by omega, ?_⟩
    · unfold clsP
      rw [idx_nodup hn hlt]; omega
    · rw [List.getElem?_eq_getElem hlt, Option.getD_some]
      exact word_off (schemaB_words' h1 _ (List.getElem_mem hlt)) (by decide)
  · unfold clsT
    rw [if_neg hc]
    refine ⟨?_, fun _ => rfl, off_one (by decide)⟩
    rw [show (⟨#[63]⟩ : ByteArray) = quest from rfl, clsP_q h1]; omega
theorem exT_pos {d : SchemaD} {e : ExD} (h : exB d e = true) : ¬ exT d e = ⟨#[]⟩ := by
  intro h2
  rw [exT_yes h] at h2
  have := congrArg ByteArray.size h2
  rw [ByteArray.size_append, ByteArray.size_append] at this
  have e1 : (⟨#[124]⟩ : ByteArray).size = 1 := rfl
  have e2 : (⟨#[]⟩ : ByteArray).size = 0 := rfl
  omega
theorem rowOf_rt {d : SchemaD} {e : ExD} (h : exB d e = true) : rowOf d (exT d e) = (e, 0, 0) := by
  obtain ⟨h1, h2, h3, h4⟩ := exB_parts h
  obtain ⟨hb1, -, -, -⟩ := schemaB_parts h1
  obtain ⟨c1, c2, c3⟩ := clsT_rt h
  have hat : ∀ p ∈ cellsT d e e.bins.length, ∃ i, i < d.attrs.length ∧ p = cellT (d.attrs[i]?.getD default) (e.bins[i]?.getD 0) := by
    intro p hp
    unfold cellsT at hp
    obtain ⟨i, hi, rfl⟩ := List.mem_map.1 hp
    exact ⟨i, by have := List.mem_range.1 hi; omega, rfl⟩
  have hlen := cellsT_len d e e.bins.length
  have p1 : parts (exT d e) 124 = [joinB (cellsT d e e.bins.length) ⟨#[44]⟩, clsT d e] := by
    rw [exT_yes h]
    refine parts_two (b := 124) (off_joinB (by decide) fun p hp => ?_) c3
    obtain ⟨i, hi, rfl⟩ := hat p hp
    exact cell_off (attr_at h1 hi) (exB_at h hi) (.inr rfl)
  have p2 : parts (joinB (cellsT d e e.bins.length) ⟨#[44]⟩) 44 = cellsT d e e.bins.length := by
    refine parts_joinB (b := 44) (by omega) fun p hp => ?_
    obtain ⟨i, hi, rfl⟩ := hat p hp
    exact cell_off (attr_at h1 hi) (exB_at h hi) (.inl rfl)
  have hsz : ¬ 80 < (exT d e).size := by
    rw [exT_yes h, ByteArray.size_append, ByteArray.size_append]
    have k1 := joinB_size (l := cellsT d e e.bins.length) (sep := ⟨#[44]⟩) (M := 8) fun p hp => by
      obtain ⟨i, hi, rfl⟩ := hat p hp
      exact cell_small (attr_at h1 hi) (exB_at h hi)
    have k2 := clsT_size h
    have e1 : (⟨#[44]⟩ : ByteArray).size = 1 := rfl
    have e2 : (⟨#[124]⟩ : ByteArray).size = 1 := rfl
    rw [hlen, e1] at k1
    omega
  rw [rowOf_cells h1 hsz (by rw [p1]; rfl) (by rw [p1]; simp only [List.getElem?_cons_zero, Option.getD_some]; rw [p2, hlen, h2]), p1]
  simp only [List.getElem?_cons_zero, List.getElem?_cons_succ, Option.getD_some]
  rw [p2]
  have hcell : ∀ i, i < e.bins.length → cellP (d.attrs[i]?.getD default) ((cellsT d e e.bins.length)[i]?.getD ByteArray.empty) = (e.bins[i]?.getD 0, true) := by
    intro i hi
    have e1 : (cellsT d e e.bins.length)[i]?.getD ByteArray.empty = cellT (d.attrs[i]?.getD default) (e.bins[i]?.getD 0) := by simp [cellsT, hi]
    rw [e1]
    exact cell_rt (attr_at h1 (by omega)) (exB_at h (by omega))
  rw [rowCells_ok ?_ ?_]
  · rw [hlen, c1]
    have e2 : rowBins d (cellsT d e e.bins.length) e.bins.length = e.bins := by
      apply List.ext_getElem?
      intro i
      rcases Nat.lt_or_ge i e.bins.length with hi | hi
      · unfold rowBins
        rw [List.getElem?_map, List.getElem?_range hi, Option.map_some, hcell i hi, List.getElem?_eq_getElem hi]
        rfl
      · rw [List.getElem?_eq_none (by rw [rowBins_len]; exact hi), List.getElem?_eq_none hi]
    rw [e2]
  · rw [hlen, List.all_eq_true]
    intro i hi
    unfold rowOkAt
    rw [hcell i (List.mem_range.1 hi)]
  · rw [c1]
    rintro ⟨k1, k2⟩
    exact k2 (c2 k1)
end Go.Proofs.YtohodehmidbmlaaDoor
namespace Go.Proofs.YtohodehmidbmlaaDoor
open Go.RowKit
set_option maxRecDepth 100000

set_option maxHeartbeats 1000000 in
theorem l7Place_any (A : Option Addr) (n c : Nat) (l : List ByteArray) (x : ByteArray) (w : World) (hl : Strs w A n l) (hn : n ≤ 2097152) :
    Calls Tryd.prog 84 #[.slice A n c, .string x] w fun e w' => e = .returned (.int .i64 (idxI (fun y => decide (x = y)) l)) ∧ w = w' := by
  have HL := hide hl
  clear hl
  go_enter Tryd.func84, Tryd.ntmps84
  go_wp2_with (fail)
  go_loop [5] (fun i => ∃ k : Nat, k ≤ n ∧ i = .int .i64 k ∧ Hid (∀ y ∈ l.take k, decide (x = y) = false)) (fun i => n - (intOf i).toNat)
  case atStart => exact ⟨0, Nat.zero_le _, rfl, fun x hx => by simp at hx⟩
  case round =>
    obtain ⟨k, hk, rfl, hno⟩ := hrel
    by_cases hlt : k < n
    · obtain ⟨ad, rfl, _, hcell⟩ := (HL.out).at_ hlt
      have hl1 := hide (show k < l.length by have := (HL.out).1; omega)
      by_cases he : x = l[k]?.getD ByteArray.empty
      · have hfin := hide (idxI_hit (p := fun y => decide (x = y)) ByteArray.empty hl1.out (by simpa using he) hno.out)
        have hb : ((l[k]?.getD ByteArray.empty).toList == x.toList) = true := str_beq he.symm
        clear he
        go_wp2
        go_ret
        exact ⟨ret_int hfin.out.symm, rfl⟩
      · have hn' := hide (none_snoc (p := fun y => decide (x = y)) ByteArray.empty hl1.out (by simpa using he) hno.out)
        have hb : ((l[k]?.getD ByteArray.empty).toList == x.toList) = false := str_beq_no (Ne.symm he)
        clear he hno
        go_wp2
        go_round
        case rel => exact ⟨k + 1, by omega, by go_num, hn'⟩
        case measure => simp [intOf]; omega
    · have h := hno.out
      rw [List.take_of_length_le (by have := (HL.out).1; omega)] at h
      have hfin := hide (idxI_none h)
      clear h
      go_wp2
      go_ret
      exact ⟨ret_int hfin.out.symm, rfl⟩

theorem quest_list : (⟨#[63]⟩ : ByteArray).toList = [63] := by rw [ByteArray.toList_eq]
theorem q_yes {s : ByteArray} (h : s = quest) : (s.toList == [63]) = true := by
  subst h
  show ((⟨#[63]⟩ : ByteArray).toList == [63]) = true
  rw [quest_list]
  rfl
theorem q_no {s : ByteArray} (h : ¬ s = quest) : (s.toList == [63]) = false := by
  rw [← quest_list]
  exact str_beq_no h
/-- How a reading of a cell ends. -/
def CellPost (a : AttrD) (s : ByteArray) (w : World) (e : Ending) (w' : World) : Prop := ∃ x : Int, e = .returned (.tuple #[.int .i64 x, .bool (cellP a s).2]) ∧ ((cellP a s).2 = true → x = (cellP a s).1) ∧ Below w.heap.size w w'

set_option maxHeartbeats 2000000 in
theorem l7Cell_any (A1 : Option Addr) (n1 c1 : Nat) (A2 : Option Addr) (n2 c2 : Nat) (a : AttrD) (s : ByteArray) (w : World) (h : AttrM w A1 n1 c1 A2 n2 c2 a) (hs : s.size ≤ 1048576) :
    Calls Tryd.prog 83 #[.agg #[.string a.name, .slice A1 n1 c1, .slice A2 n2 c2], .string s] w (CellPost a s w) := by
  have hn1 := h.b1
  have hn2 := h.b2
  have hbox : Below w.heap.size w (w.alloc (.cells #[.string a.name, .slice A1 n1 c1, .slice A2 n2 c2] 64)) := (Below.refl _ _).alloc (Nat.le_refl _) _
  have hX := Box3.new w (.string a.name) (.slice A1 n1 c1) (.slice A2 n2 c2) 64
  have HV := hide (h.keep hbox)
  have hl2 := hide h.vals.1
  clear h
  by_cases hq : s = quest
  · have hfin := hide (cellP_q (a := a) hq)
    have hb : (s.toList == [63]) = true := q_yes hq
    clear hq
    go_enter Tryd.func83, Tryd.ntmps83
    go_wp2
    go_ret2
    exact ⟨-1, by rw [hfin.out]; rfl, fun _ => by rw [hfin.out], hbox⟩
  have hb : (s.toList == [63]) = false := q_no hq
  have HQ := hide hq
  clear hq
  obtain ⟨k0, k1, k2, k3⟩ := id hX
  by_cases hv : 0 < n2
  · have hfin := hide (cellP_val (a := a) HQ.out (by have := hl2.out; omega))
    obtain ⟨x, hx⟩ : ∃ x, x = idxI (fun y => decide (s = y)) a.vals := ⟨_, rfl⟩
    have hxb := idxI_bd (fun y => decide (s = y)) a.vals
    rw [← hx] at hxb hfin
    have HX := hide hx
    clear hx
    go_enter Tryd.func83, Tryd.ntmps83
    go_wp2_with (fail)
    refine (l7Place_any A2 n2 c2 a.vals s _ HV.out.vals (by omega)).mono ?_
    rintro e w1 ⟨rfl, rfl⟩
    rw [← HX.out]
    rcases (show 0 ≤ x ∨ x < 0 by omega) with h0 | h0
    · have hd : decide (0 ≤ x) = true := decide_eq_true h0
      go_wp2
      go_ret2
      exact ⟨x, by rw [hfin.out, hd]; rfl, fun _ => by rw [hfin.out], hbox⟩
    · have hd : decide (0 ≤ x) = false := decide_eq_false (by omega)
      go_wp2
      go_ret2
      exact ⟨x, by rw [hfin.out, hd]; rfl, fun _ => by rw [hfin.out], hbox⟩
  · have hfin := hide (cellP_cut (a := a) HQ.out (by have := hl2.out; omega))
    obtain rfl : n2 = 0 := by omega
    obtain ⟨v, ok, hv⟩ : ∃ v ok, rdI s (-9999) 9999 = (v, ok) := ⟨_, _, rfl⟩
    have hrd := hide (show rdS s = (v, ok) from hv)
    go_enter Tryd.func83, Tryd.ntmps83
    go_wp2_with (fail)
    refine (specSigned_any s hs _).mono ?_
    rintro e w1 ⟨rfl, hb1⟩
    rw [hv]
    clear hv
    have hB := bthen hbox hb1
    replace hX := hX.keep hb1
    replace HV := hide (HV.out.keep hb1)
    clear hb1 k0 k1 k2 k3
    obtain ⟨k0, k1, k2, k3⟩ := id hX
    cases ok
    · go_wp2
      go_ret2
      exact ⟨0, by rw [hfin.out, hrd.out]; rfl, fun h => (by rw [hfin.out, hrd.out] at h; cases h), hB⟩
    · go_wp2_with (fail)
      refine (specBinOf_any A1 n1 c1 a.cuts v _ HV.out.cuts (by omega)).mono ?_
      rintro e w2 ⟨rfl, rfl⟩
      go_wp2
      go_ret2
      exact ⟨binI a.cuts v, by rw [hfin.out, hrd.out]; rfl, fun _ => by rw [hfin.out, hrd.out], hB⟩

set_option maxHeartbeats 8000000 in
theorem cellBin_any (A1 : Option Addr) (n1 c1 : Nat) (A2 : Option Addr) (n2 c2 : Nat) (a : AttrD) (s : ByteArray) (w : World) (h : AttrM w A1 n1 c1 A2 n2 c2 a) (hs : s.size ≤ 1048576) (hok : attrB a = true) (hd : DoorW w) :
    Calls Tryd.prog 88 #[.agg #[.string a.name, .slice A1 n1 c1, .slice A2 n2 c2], .string s] w (CellPost a s w) := by
  have hn1 := h.b1
  have hn2 := h.b2
  have hbox : Below w.heap.size w (w.alloc (.cells #[.string a.name, .slice A1 n1 c1, .slice A2 n2 c2] 64)) := (Below.refl _ _).alloc (Nat.le_refl _) _
  have hX := Box3.new w (.string a.name) (.slice A1 n1 c1) (.slice A2 n2 c2) 64
  have HV := hide (h.keep hbox)
  have HD := hide (hd.keep hbox)
  have hl1 := h.cuts.1
  have hl2 := h.vals.1
  have hvc : (n1 = 0 ∧ 0 < n2) ∨ (n2 = 0 ∧ 0 < n1) := by rcases attrB_parts hok with h | h <;> omega
  replace hl2 := hide hl2
  clear h hd hl1 hok
  by_cases hq : s = quest
  · have hfin := hide (cellP_q (a := a) hq)
    have hb : (s.toList == [63]) = true := q_yes hq
    clear hq
    go_enter Tryd.func88, Tryd.ntmps88
    go_wp2
    go_ret2
    exact ⟨-1, by rw [hfin.out]; rfl, fun _ => by rw [hfin.out], hbox⟩
  have hb : (s.toList == [63]) = false := q_no hq
  have HQ := hide hq
  clear hq
  obtain ⟨k0, k1, k2, k3⟩ := id hX
  rcases hvc with ⟨rfl, hv⟩ | ⟨rfl, hv⟩
  · have hfin := hide (cellP_val (a := a) HQ.out (by have := hl2.out; omega))
    obtain ⟨x, hx⟩ : ∃ x, x = idxI (fun y => decide (s = y)) a.vals := ⟨_, rfl⟩
    have hxb := idxI_bd (fun y => decide (s = y)) a.vals
    rw [← hx] at hxb hfin
    have HX := hide hx
    clear hx
    go_enter Tryd.func88, Tryd.ntmps88
    go_wp2_with (fail)
    refine (indexStr_any A2 n2 c2 a.vals s _ HV.out.vals (by omega)).mono ?_
    rintro e w1 ⟨rfl, rfl⟩
    rw [← HX.out]
    rcases (show 0 ≤ x ∨ x < 0 by omega) with h0 | h0
    · have hd : decide (0 ≤ x) = true := decide_eq_true h0
      go_wp2
      go_ret2
      exact ⟨x, by rw [hfin.out, hd]; rfl, fun _ => by rw [hfin.out], hbox⟩
    · have hd : decide (0 ≤ x) = false := decide_eq_false (by omega)
      go_wp2
      go_ret2
      exact ⟨x, by rw [hfin.out, hd]; rfl, fun _ => by rw [hfin.out], hbox⟩
  · have hfin := hide (cellP_cut (a := a) HQ.out (by have := hl2.out; omega))
    obtain ⟨v, ok, hv⟩ : ∃ v ok, rdI s (-9999) 9999 = (v, ok) := ⟨_, _, rfl⟩
    have hrd := hide (show rdS s = (v, ok) from hv)
    have hne : ((n1 : Int) == 0) = false := beq_eq_false_iff_ne.2 (by omega)
    go_enter Tryd.func88, Tryd.ntmps88
    go_wp2_with (fail)
    refine (implSigned_any s hs _ HD.out).mono ?_
    rintro e w1 ⟨rfl, hb1⟩
    rw [hv]
    clear hv
    have hB := bthen hbox hb1
    replace hX := hX.keep hb1
    replace HV := hide (HV.out.keep hb1)
    clear hb1 k0 k1 k2 k3
    obtain ⟨k0, k1, k2, k3⟩ := id hX
    go_wp2_with (fail)
    refine (implBinOf_any A1 n1 c1 a.cuts v _ HV.out.cuts (by omega)).mono ?_
    rintro e w2 ⟨rfl, rfl⟩
    go_wp2
    go_ret2
    exact ⟨binI a.cuts v, by rw [hfin.out, hrd.out]; rfl, fun _ => by rw [hfin.out, hrd.out], hB⟩
end Go.Proofs.YtohodehmidbmlaaDoor
namespace Go.Proofs.YtohodehmidbmlaaDoor
open Go.RowKit
set_option maxRecDepth 100000

theorem Bag.cat2 {B B' N M : Nat} {w : World} {r s : Nat → Row} (h : Bag B N w r) (hs : Bag B' M w s) (hB : B ≤ B') (hlt : ∀ k, has N r k → k < B') : Bag B (N + M) w (rcat N r s) := by
  have h2 := hs.mono hB
  have key : ∀ i j, i < N → j < M → (r i).apart (s j) := by
    intro i j hi hj
    unfold Row.apart
    rcases e1 : (r i).blk with _ | g
    · exact .inl rfl
    · refine .inr fun e => ?_
      have k1 := hlt g ⟨i, hi, e1⟩
      have k2 := ((hs.own j hj).lt g e.symm).1
      omega
  refine ⟨fun i hi => ?_, fun i j hi hj hij => ?_⟩
  · unfold rcat
    split
    · exact h.own i (by omega)
    · exact h2.own (i - N) (by omega)
  · unfold rcat
    split <;> split
    · exact h.sep i j (by omega) (by omega) hij
    · exact key i (j - N) (by omega) (by omega)
    · exact (key j (i - N) (by omega) (by omega)).symm
    · exact hs.sep (i - N) (j - N) (by omega) (by omega) (by omega)
/-- The rows of one attribute. -/
abbrev attrRows (D1 : Option Addr) (n1 m1 : Nat) (D2 : Option Addr) (n2 m2 : Nat) (a : AttrD) : Nat → Row := rpair (intRow D1 n1 m1 a.cuts) (strRow D2 n2 m2 a.vals)
/-- One attribute more at the end of attributes that own themselves. -/
theorem AttrsTo.snoc {B B' : Nat} {w1 w2 : World} {r : Nat → Row} {A D1 D2 : Option Addr} {n c n1 m1 n2 m2 : Nat} {ls : List AttrD} {a : AttrD} {v : Value}
    (h : AttrsTo r A n c ls n) (hb : Bag B (1 + 2 * n) w1 r) (ho : Bag B' 2 w1 (attrRows D1 n1 m1 D2 n2 m2 a)) (hB : B ≤ B') (hlt : ∀ k, has (1 + 2 * n) r k → k < B') (hB2 : B' ≤ w1.heap.size)
    (hv : w2.ownsRow B 64 3 v (n + 1) ((r 0).xs ++ [.string a.name, .slice D1 n1 m1, .slice D2 n2 m2])) (hg : w1.grownBy w2 (Value.ownBlock (.slice A n c)))
    (hnew : ∀ g, v.ownBlock = some g → Value.ownBlock (.slice A n c) = some g ∨ w1.heap.size ≤ g) :
    ∃ A2 c2 r', v = .slice A2 (n + 1) c2 ∧ Bag B (1 + 2 * (n + 1)) w2 r' ∧ AttrsTo r' A2 (n + 1) c2 (ls ++ [a]) (n + 1) ∧ ∀ k, has (1 + 2 * (n + 1)) r' k → has (1 + 2 * n) r k ∨ B' ≤ k := by
  have h1 := hb.cat2 ho hB hlt
  obtain ⟨e1, e2, e3, e4⟩ := h.head
  have hO := h.outer hb (by omega)
  have hxl : (r 0).xs.length = n * 3 := hO.1
  have hln := h.len
  obtain ⟨s, hs⟩ : ∃ s, s = rcat (1 + 2 * n) r (attrRows D1 n1 m1 D2 n2 m2 a) := ⟨_, rfl⟩
  rw [← hs] at h1
  have s0 : s 0 = r 0 := by rw [hs]; unfold rcat; rw [if_pos (by omega)]
  have sold : ∀ i, i < 1 + 2 * n → s i = r i := fun i hi => by rw [hs]; unfold rcat; rw [if_pos hi]
  have sn1 : s (1 + 2 * n) = intRow D1 n1 m1 a.cuts := by rw [hs]; unfold rcat attrRows rpair; rw [if_neg (by omega), if_pos (by omega)]
  have sn2 : s (2 + 2 * n) = strRow D2 n2 m2 a.vals := by rw [hs]; unfold rcat attrRows rpair; rw [if_neg (by omega), if_neg (by omega)]
  obtain ⟨A2, c2, rfl⟩ := own_shape hv
  have hblk : (s 0).blk = Value.ownBlock (.slice A n c) := by rw [s0]; unfold Row.blk; rw [e3]
  obtain ⟨t, ht⟩ : ∃ t : Row, t = ⟨64, 3, .slice A2 (n + 1) c2, n + 1, (r 0).xs ++ [.string a.name, .slice D1 n1 m1, .slice D2 n2 m2]⟩ := ⟨_, rfl⟩
  have hv' : t.own B w2 := by rw [ht]; exact hv
  have h2 := h1.turn (i := 0) (s := t) (by omega) (by rw [hblk]; exact hg) hv' (by rw [hblk, ht]; exact hnew)
  rw [show 1 + 2 * n + 2 = 1 + 2 * (n + 1) by omega] at h2
  refine ⟨A2, c2, _, rfl, h2, ⟨by simp [hln], by rw [rput_same, ht]; exact ⟨rfl, rfl, rfl, rfl⟩, fun i hi => ?_⟩, ?_⟩
  · rw [rput_same, ht, rput_other _ _ (show 1 + 2 * i ≠ 0 by omega), rput_other _ _ (show 2 + 2 * i ≠ 0 by omega)]
    by_cases e : i = n
    · subst e
      have ea : (ls ++ [a])[i]?.getD default = a := by rw [hln, List.getElem?_append_right (Nat.le_refl _), Nat.sub_self]; rfl
      rw [ea]
      refine ⟨D1, n1, m1, D2, n2, m2, ?_, ?_, ?_, sn1, sn2⟩
      · show ((r 0).xs ++ _)[i * 3]? = _
        rw [List.getElem?_append_right (by omega), hxl, Nat.sub_self]; rfl
      · show ((r 0).xs ++ _)[i * 3 + 1]? = _
        rw [List.getElem?_append_right (by omega), hxl, show i * 3 + 1 - i * 3 = 1 by omega]; rfl
      · show ((r 0).xs ++ _)[i * 3 + 2]? = _
        rw [List.getElem?_append_right (by omega), hxl, show i * 3 + 2 - i * 3 = 2 by omega]; rfl
    · obtain ⟨A1, n1', c1, A2', n2', c2', k0, k1, k2, k3, k4⟩ := h.rows i (by omega)
      have ea : (ls ++ [a])[i]?.getD default = ls[i]?.getD default := by rw [List.getElem?_append_left (by omega)]
      rw [ea]
      refine ⟨A1, n1', c1, A2', n2', c2', ?_, ?_, ?_, by rw [sold _ (by omega)]; exact k3, by rw [sold _ (by omega)]; exact k4⟩
      · show ((r 0).xs ++ _)[i * 3]? = _
        rw [List.getElem?_append_left (by omega)]; exact k0
      · show ((r 0).xs ++ _)[i * 3 + 1]? = _
        rw [List.getElem?_append_left (by omega)]; exact k1
      · show ((r 0).xs ++ _)[i * 3 + 2]? = _
        rw [List.getElem?_append_left (by omega)]; exact k2
  · rintro k ⟨i, hi, e⟩
    by_cases q : i = 0
    · subst q
      rw [rput_same, ht] at e
      rcases hnew k e with k1 | k1
      · exact .inl ⟨0, by omega, by rw [← s0, hblk]; exact k1⟩
      · exact .inr (Nat.le_trans hB2 k1)
    · rw [rput_other _ _ q] at e
      by_cases q2 : i < 1 + 2 * n
      · exact .inl ⟨i, q2, by rw [← sold i q2]; exact e⟩
      · rcases (show i = 1 + 2 * n ∨ i = 2 + 2 * n by omega) with rfl | rfl
        · rw [sn1] at e
          exact .inr ((ho.own 0 (by omega)).lt k e).1
        · rw [sn2] at e
          exact .inr ((ho.own 1 (by omega)).lt k e).1
/-- A schema in the making. -/
structure SchP (B : Nat) (w : World) (A : Option Addr) (n c : Nat) (D : Option Addr) (m k : Nat) (r : Nat → Row) (d : SchemaD) : Prop where
  bag : Bag B (1 + 2 * n) w r
  to : AttrsTo r A n c d.attrs n
  cls : w.ownsRow B 9 1 (.slice D m k) m (d.classes.map Value.string)
  sep : ∀ g, Value.ownBlock (.slice D m k) = some g → ¬ has (1 + 2 * n) r g
  b1 : n ≤ 1048576
  b2 : m ≤ 1048576
  s1 : ∀ a ∈ d.attrs, attrSmall a
  s2 : ∀ s ∈ d.classes, s.size ≤ 1048576
section
variable {B : Nat} {w w' : World} {A D : Option Addr} {n c m k : Nat} {r : Nat → Row} {d : SchemaD}
theorem SchP.only {S : Nat → Prop} (h : SchP B w A n c D m k r d) (ho : Only S w w') (hs : ∀ k, S k → k < B) : SchP B w' A n c D m k r d :=
  ⟨h.bag.only ho fun j hj hS => by have := (h.bag.lt hj).1; have := hs j hS; omega, h.to, own_only h.cls ho fun j hj hS => by have := (h.cls.lt j hj).1; have := hs j hS; omega, h.sep, h.b1, h.b2, h.s1, h.s2⟩
theorem SchP.below (h : SchP B w A n c D m k r d) (hb : Below w.heap.size w w') : SchP B w' A n c D m k r d := ⟨h.bag.below hb, h.to, own_below h.cls hb, h.sep, h.b1, h.b2, h.s1, h.s2⟩
theorem SchP.mono {B' : Nat} (h : SchP B w A n c D m k r d) (hB : B' ≤ B) : SchP B' w A n c D m k r d :=
  ⟨h.bag.mono hB, h.to, (by
    have := (Bag.one (s := strRow D m k d.classes) h.cls).mono hB
    exact this.own 0 (by omega)), h.sep, h.b1, h.b2, h.s1, h.s2⟩
theorem SchP.o (h : SchP B w A n c D m k r d) : SchemaO B w.heap.size w (.slice A n c) (.slice D m k) d := by
  have hbag : Bag B (2 + 2 * n) w (rput r (1 + 2 * n) (strRow D m k d.classes)) := by
    have hap : ∀ i, i < 1 + 2 * n → (strRow D m k d.classes).apart (r i) := by
      intro i hi
      unfold Row.apart
      rcases hb : (strRow D m k d.classes).blk with _ | g
      · exact .inl rfl
      · exact .inr fun e => h.sep g hb ⟨i, hi, e.symm⟩
    refine ⟨fun i hi => ?_, fun i j hi hj hij => ?_⟩
    · by_cases e : i = 1 + 2 * n
      · subst e; rw [rput_same]; exact h.cls
      · rw [rput_other _ _ e]; exact h.bag.own i (by omega)
    · by_cases e : i = 1 + 2 * n
      · subst e
        rw [rput_same, rput_other _ _ (Ne.symm hij)]
        exact hap j (by omega)
      · rw [rput_other _ _ e]
        by_cases e2 : j = 1 + 2 * n
        · subst e2
          rw [rput_same]
          exact (hap i (by omega)).symm
        · rw [rput_other _ _ e2]
          exact h.bag.sep i j (by omega) (by omega) hij
  exact ⟨A, n, c, D, m, k, _, rfl, rfl, hbag, rput_same _ _ _, h.to.congr fun i hi => rput_other _ _ (by omega), h.b1, h.b2, h.s1, h.s2, fun k hk => (hbag.lt hk).2⟩
/-- One attribute more. -/
theorem SchP.attr {B' : Nat} {w2 : World} {D1 D2 : Option Addr} {n1 m1 n2 m2 : Nat} {a : AttrD} {v : Value} (h : SchP B w A n c D m k r d)
    (ho : Bag B' 2 w (attrRows D1 n1 m1 D2 n2 m2 a)) (hB : B ≤ B') (hB2 : B' ≤ w.heap.size) (hlt : ∀ j, has (1 + 2 * n) r j → j < B') (hlt2 : ∀ g, Value.ownBlock (.slice D m k) = some g → g < B')
    (hv : w2.ownsRow B 64 3 v (n + 1) ((r 0).xs ++ [.string a.name, .slice D1 n1 m1, .slice D2 n2 m2])) (hg : w.grownBy w2 (Value.ownBlock (.slice A n c)))
    (hnew : ∀ g, v.ownBlock = some g → Value.ownBlock (.slice A n c) = some g ∨ w.heap.size ≤ g) (hn : n + 1 ≤ 1048576) (hs : attrSmall a) :
    ∃ A2 c2 r', v = .slice A2 (n + 1) c2 ∧ SchP B w2 A2 (n + 1) c2 D m k r' ⟨d.attrs ++ [a], d.classes⟩ ∧ ∀ k, has (1 + 2 * (n + 1)) r' k → has (1 + 2 * n) r k ∨ B' ≤ k := by
  obtain ⟨A2, c2, r', rfl, hb, ht, hh⟩ := h.to.snoc h.bag ho hB hlt hB2 hv hg hnew
  refine ⟨A2, c2, r', rfl, ⟨hb, ht, ?_, fun g hg2 hr => ?_, hn, h.b2, fun x hx => ?_, h.s2⟩, hh⟩
  · refine h.cls.kept hg ?_
    rcases hbk : Value.ownBlock (.slice D m k) with _ | g
    · exact .inl rfl
    · refine .inr fun e => h.sep g hbk ⟨0, by omega, ?_⟩
      unfold Row.blk
      rw [h.to.head.2.2.1]
      exact e.symm
  · rcases hh g hr with h1 | h1
    · exact h.sep g hg2 h1
    · have := hlt2 g hg2
      omega
  · simp only [List.mem_append, List.mem_singleton] at hx
    rcases hx with hx | rfl
    · exact h.s1 x hx
    · exact hs
/-- One class more. -/
theorem SchP.word {w2 : World} {s : ByteArray} {v : Value} (h : SchP B w A n c D m k r d)
    (hv : w2.ownsRow B 9 1 v (m + 1) (d.classes.map Value.string ++ [.string s])) (hg : w.grownBy w2 (Value.ownBlock (.slice D m k)))
    (hnew : ∀ g, v.ownBlock = some g → Value.ownBlock (.slice D m k) = some g ∨ w.heap.size ≤ g) (hm : m + 1 ≤ 1048576) (hs : s.size ≤ 1048576) :
    ∃ D2 k2, v = .slice D2 (m + 1) k2 ∧ SchP B w2 A n c D2 (m + 1) k2 r ⟨d.attrs, d.classes ++ [s]⟩ := by
  obtain ⟨D2, k2, rfl⟩ := own_shape hv
  refine ⟨D2, k2, rfl, ⟨fun i hi => ?_, h.bag.sep⟩, h.to, by simpa using hv, fun g hg2 hr => ?_, h.b1, hm, h.s1, fun x hx => ?_⟩
  · refine (h.bag.own i hi).kept hg ?_
    rcases hbk : (r i).blk with _ | g
    · exact .inl hbk
    · exact .inr fun e => h.sep g (e.symm.trans hbk) ⟨i, hi, hbk⟩
  · rcases hnew g hg2 with h1 | h1
    · exact h.sep g h1 hr
    · have := (h.bag.lt hr).2
      omega
  · simp only [List.mem_append, List.mem_singleton] at hx
    rcases hx with hx | rfl
    · exact h.s2 x hx
    · exact hs
/-- The first class alone. -/
theorem SchP.first (h : SchP B w A n c D m k r d) (hm : 1 ≤ m) : SchP B w A n c D 1 k r ⟨d.attrs, d.classes.take 1⟩ := by
  refine ⟨h.bag, h.to, ?_, fun g hg => h.sep g (by cases D <;> exact hg), h.b1, by omega, h.s1, fun s hs => h.s2 s (List.mem_of_mem_take hs)⟩
  obtain ⟨h1, h2⟩ := h.cls
  have hlen : d.classes.length = m := by simpa using h1
  refine ⟨by simp; omega, ?_⟩
  rcases h2 with ⟨-, h0⟩ | ⟨g, cap, cur, e, hb, hgg, hle, hmx, hsz, htk⟩
  · omega
  · injection e with e1 e2 e3
    subst e1 e3
    refine .inr ⟨g, k, cur, rfl, hb, hgg, by omega, hmx, hsz, ?_⟩
    rw [List.map_take, ← htk, List.take_take]
    congr 1
    omega
/-- No attributes: an empty slice of its own. -/
theorem SchP.none_ (h : SchP B w A n c D m k r d) (hB : B ≤ w.heap.size) :
    SchP B (w.alloc (.cells #[] 64)) (some ⟨w.heap.size, 0, none⟩) 0 0 D m k (fun _ => ⟨64, 3, .slice (some ⟨w.heap.size, 0, none⟩) 0 0, 0, []⟩) ⟨[], d.classes⟩ := by
  have ho := own_empty w B 64 3 hB
  refine ⟨Bag.one (s := ⟨64, 3, .slice (some ⟨w.heap.size, 0, none⟩) 0 0, 0, []⟩) ho, ⟨rfl, ⟨rfl, rfl, rfl, rfl⟩, fun i hi => by omega⟩, h.cls.alloc _, fun g hg hr => ?_, by omega, h.b2, by simp, h.s2⟩
  obtain ⟨i, -, e⟩ := hr
  have e2 : some w.heap.size = some g := e
  injection e2 with e2
  have := (h.cls.lt g hg).2
  omega
end
end Go.Proofs.YtohodehmidbmlaaDoor
namespace Go.Proofs.YtohodehmidbmlaaDoor
open Go.RowKit
set_option maxRecDepth 100000

theorem grown_below {w w' : World} {row : Option Nat} (h : Below w.heap.size w w') : w.grownBy w' row := ⟨h.os, h.tape, h.output, h.size, fun k hk _ => h.block k hk⟩
section
variable {B : Nat} {w w2 : World} {A1 A2 : Option Addr} {n1 c1 n2 c2 : Nat} {a : AttrD}
theorem attr_start (w : World) (B : Nat) (nm : ByteArray) : Bag B 2 w (attrRows none 0 0 none 0 0 ⟨nm, [], []⟩) := by
  refine ⟨fun i hi => ?_, fun i j hi hj hij => ?_⟩
  · rcases (show i = 0 ∨ i = 1 by omega) with rfl | rfl
    · exact World.ownsRow_nil _ _ _ _
    · exact World.ownsRow_nil _ _ _ _
  · rcases (show i = 0 ∨ i = 1 by omega) with rfl | rfl
    · exact .inl rfl
    · exact .inl rfl
theorem rput_cuts (s : Row) (t u : Row) : rput (rpair s t) 0 u = rpair u t := by
  funext j
  unfold rput rpair
  by_cases e : j = 0 <;> simp [e]
theorem attrRows_cong {r : Nat → Row} {N : Nat} {s : Nat → Row} (h : Bag B N w r) (e : ∀ i, i < N → s i = r i) : Bag B N w s := h.congr e
theorem attr_turn1 {A1' : Option Addr} {n1' c1' : Nat} {l : List Int} (h : Bag B 2 w (attrRows A1 n1 c1 A2 n2 c2 a)) (hv : w2.ownsRow B 3 1 (.slice A1' n1' c1') n1' (l.map (Value.int .i64)))
    (hg : w.grownBy w2 (Value.ownBlock (.slice A1 n1 c1))) (hnew : ∀ g, Value.ownBlock (.slice A1' n1' c1') = some g → Value.ownBlock (.slice A1 n1 c1) = some g ∨ w.heap.size ≤ g) (nm : ByteArray) :
    Bag B 2 w2 (attrRows A1' n1' c1' A2 n2 c2 ⟨nm, l, a.vals⟩) :=
  (h.turn (i := 0) (s := intRow A1' n1' c1' l) (by omega) hg hv hnew).congr fun i hi => by
    rcases (show i = 0 ∨ i = 1 by omega) with rfl | rfl
    · rw [rput_same]; rfl
    · rw [rput_other _ _ (by omega)]; rfl
theorem attr_turn2 {A2' : Option Addr} {n2' c2' : Nat} {l : List ByteArray} (h : Bag B 2 w (attrRows A1 n1 c1 A2 n2 c2 a)) (hv : w2.ownsRow B 9 1 (.slice A2' n2' c2') n2' (l.map Value.string))
    (hg : w.grownBy w2 (Value.ownBlock (.slice A2 n2 c2))) (hnew : ∀ g, Value.ownBlock (.slice A2' n2' c2') = some g → Value.ownBlock (.slice A2 n2 c2) = some g ∨ w.heap.size ≤ g) (nm : ByteArray) :
    Bag B 2 w2 (attrRows A1 n1 c1 A2' n2' c2' ⟨nm, a.cuts, l⟩) :=
  (h.turn (i := 1) (s := strRow A2' n2' c2' l) (by omega) hg hv hnew).congr fun i hi => by
    rcases (show i = 0 ∨ i = 1 by omega) with rfl | rfl
    · rw [rput_other _ _ (by omega)]; rfl
    · rw [rput_same]; rfl
/-- One cut more. -/
theorem attr_cut {v : Value} {x : Int} (h : Bag B 2 w (attrRows A1 n1 c1 A2 n2 c2 a)) (hv : w2.ownsRow B 3 1 v (n1 + 1) (a.cuts.map (Value.int .i64) ++ [.int .i64 x]))
    (hg : w.grownBy w2 (Value.ownBlock (.slice A1 n1 c1))) (hnew : ∀ g, v.ownBlock = some g → Value.ownBlock (.slice A1 n1 c1) = some g ∨ w.heap.size ≤ g) :
    ∃ A1' c1', v = .slice A1' (n1 + 1) c1' ∧ Bag B 2 w2 (attrRows A1' (n1 + 1) c1' A2 n2 c2 ⟨a.name, a.cuts ++ [x], a.vals⟩) := by
  obtain ⟨D, m, rfl⟩ := own_shape hv
  exact ⟨D, m, rfl, attr_turn1 h (by simpa using hv) hg hnew _⟩
/-- One value more. -/
theorem attr_val {v : Value} {x : ByteArray} (h : Bag B 2 w (attrRows A1 n1 c1 A2 n2 c2 a)) (hv : w2.ownsRow B 9 1 v (n2 + 1) (a.vals.map Value.string ++ [.string x]))
    (hg : w.grownBy w2 (Value.ownBlock (.slice A2 n2 c2))) (hnew : ∀ g, v.ownBlock = some g → Value.ownBlock (.slice A2 n2 c2) = some g ∨ w.heap.size ≤ g) :
    ∃ A2' c2', v = .slice A2' (n2 + 1) c2' ∧ Bag B 2 w2 (attrRows A1 n1 c1 A2' (n2 + 1) c2' ⟨a.name, a.cuts, a.vals ++ [x]⟩) := by
  obtain ⟨D, m, rfl⟩ := own_shape hv
  exact ⟨D, m, rfl, attr_turn2 h (by simpa using hv) hg hnew _⟩
/-- Cuts, values made anew. -/
theorem attr_cuts_set {B' : Nat} {A1' : Option Addr} {n1' c1' : Nat} {l : List Int} (h : Bag B 2 w (attrRows A1 n1 c1 A2 n2 c2 a)) (hb : Below w.heap.size w w2) (hB : B ≤ B') (hw : w.heap.size ≤ B')
    (hv : w2.ownsRow B' 3 1 (.slice A1' n1' c1') n1' (l.map (Value.int .i64))) (nm : ByteArray) : Bag B 2 w2 (attrRows A1' n1' c1' A2 n2 c2 ⟨nm, l, a.vals⟩) :=
  attr_turn1 h (((Bag.one (s := intRow A1' n1' c1' l) hv).mono hB).own 0 (by omega)) (grown_below hb) (fun g hg => .inr (Nat.le_trans hw (hv.lt g hg).1)) nm
theorem attr_vals_set {B' : Nat} {A2' : Option Addr} {n2' c2' : Nat} {l : List ByteArray} (h : Bag B 2 w (attrRows A1 n1 c1 A2 n2 c2 a)) (hb : Below w.heap.size w w2) (hB : B ≤ B') (hw : w.heap.size ≤ B')
    (hv : w2.ownsRow B' 9 1 (.slice A2' n2' c2') n2' (l.map Value.string)) (nm : ByteArray) : Bag B 2 w2 (attrRows A1 n1 c1 A2' n2' c2' ⟨nm, a.cuts, l⟩) :=
  attr_turn2 h (((Bag.one (s := strRow A2' n2' c2' l) hv).mono hB).own 0 (by omega)) (grown_below hb) (fun g hg => .inr (Nat.le_trans hw (hv.lt g hg).1)) nm
theorem attr_own1 (h : Bag B 2 w (attrRows A1 n1 c1 A2 n2 c2 a)) : w.ownsRow B 3 1 (.slice A1 n1 c1) n1 (a.cuts.map (Value.int .i64)) := h.own 0 (by omega)
theorem attr_own2 (h : Bag B 2 w (attrRows A1 n1 c1 A2 n2 c2 a)) : w.ownsRow B 9 1 (.slice A2 n2 c2) n2 (a.vals.map Value.string) := h.own 1 (by omega)
theorem attr_m (h : Bag B 2 w (attrRows A1 n1 c1 A2 n2 c2 a)) (hs : attrSmall a) : AttrM w A1 n1 c1 A2 n2 c2 a := by
  obtain ⟨q1, q2, q3, q4⟩ := hs
  have o1 := attr_own1 h
  have o2 := attr_own2 h
  have z1 := (ints_of o1).1
  have z2 := (strs_of o2).1
  exact ⟨ints_of o1, strs_of o2, q1, q2, by omega, by omega, own_cap o2⟩
end

/-- A struct of three cells in block b. -/
structure BoxA (w : World) (b : Nat) (x y z : Value) : Prop where
  c0 : w.cell? ⟨b, 0, none⟩ = some x
  c1 : w.cell? ⟨b, 1, none⟩ = some y
  c2 : w.cell? ⟨b, 2, none⟩ = some z
  f0 : w.frozen? ⟨b, 0, none⟩ = false
  f1 : w.frozen? ⟨b, 1, none⟩ = false
  f2 : w.frozen? ⟨b, 2, none⟩ = false
  lt : b < w.heap.size
theorem BoxA.new (w : World) (x y z : Value) (t : TypeId) : BoxA (w.alloc (.cells #[x, y, z] t)) w.heap.size x y z :=
  ⟨by go_simp, by go_simp, by go_simp, by go_simp, by go_simp, by go_simp, by simp⟩
section
variable {w w' : World} {b : Nat} {x y z : Value}
theorem BoxA.only {S : Nat → Prop} (h : BoxA w b x y z) (ho : Only S w w') (hS : ¬ S b) : BoxA w' b x y z := by
  have hk := ho.block b h.lt hS
  have e : ∀ o, w'.cell? ⟨b, o, none⟩ = w.cell? ⟨b, o, none⟩ := fun o => World.cell?_of_block (w := w) (a := ⟨b, o, none⟩) hk
  have f : ∀ o, w'.frozen? ⟨b, o, none⟩ = w.frozen? ⟨b, o, none⟩ := fun o => World.frozen?_of_block (w := w) (a := ⟨b, o, none⟩) hk
  exact ⟨(e 0).trans h.c0, (e 1).trans h.c1, (e 2).trans h.c2, (f 0).trans h.f0, (f 1).trans h.f1, (f 2).trans h.f2, Nat.lt_of_lt_of_le h.lt ho.size⟩
theorem BoxA.keep (h : BoxA w b x y z) (hb : Below w.heap.size w w') : BoxA w' b x y z := h.only (S := fun _ => False) (Only.of_below hb) (fun h => h)
theorem BoxA.low {B : Nat} (h : BoxA w b x y z) (hb : Below B w w') (hB : b < B) : BoxA w' b x y z :=
  h.only (S := fun j => B ≤ j) ⟨hb.os, hb.tape, hb.output, hb.size, fun k _ hk => hb.block k (by omega)⟩ (by omega)
theorem BoxA.set0 (h : BoxA w b x y z) (u : Value) : BoxA (w.setCell ⟨b, 0, none⟩ u) b u y z := by
  obtain ⟨h0, h1, h2, g0, g1, g2, hl⟩ := h
  exact ⟨by go_simp, by go_simp, by go_simp, by go_simp, by go_simp, by go_simp, by simpa using hl⟩
theorem BoxA.set1 (h : BoxA w b x y z) (u : Value) : BoxA (w.setCell ⟨b, 1, none⟩ u) b x u z := by
  obtain ⟨h0, h1, h2, g0, g1, g2, hl⟩ := h
  exact ⟨by go_simp, by go_simp, by go_simp, by go_simp, by go_simp, by go_simp, by simpa using hl⟩
theorem BoxA.set2 (h : BoxA w b x y z) (u : Value) : BoxA (w.setCell ⟨b, 2, none⟩ u) b x y u := by
  obtain ⟨h0, h1, h2, g0, g1, g2, hl⟩ := h
  exact ⟨by go_simp, by go_simp, by go_simp, by go_simp, by go_simp, by go_simp, by simpa using hl⟩
end
/-- A struct of two cells in block b, writable. -/
structure BoxW (w : World) (b : Nat) (x y : Value) : Prop where
  c0 : w.cell? ⟨b, 0, none⟩ = some x
  c1 : w.cell? ⟨b, 1, none⟩ = some y
  f0 : w.frozen? ⟨b, 0, none⟩ = false
  f1 : w.frozen? ⟨b, 1, none⟩ = false
  lt : b < w.heap.size
theorem BoxW.new (w : World) (x y : Value) (t : TypeId) : BoxW (w.alloc (.cells #[x, y] t)) w.heap.size x y :=
  ⟨by go_simp, by go_simp, by go_simp, by go_simp, by simp⟩
section
variable {w w' : World} {b : Nat} {x y : Value}
theorem BoxW.only {S : Nat → Prop} (h : BoxW w b x y) (ho : Only S w w') (hS : ¬ S b) : BoxW w' b x y := by
  have hk := ho.block b h.lt hS
  have e : ∀ o, w'.cell? ⟨b, o, none⟩ = w.cell? ⟨b, o, none⟩ := fun o => World.cell?_of_block (w := w) (a := ⟨b, o, none⟩) hk
  have f : ∀ o, w'.frozen? ⟨b, o, none⟩ = w.frozen? ⟨b, o, none⟩ := fun o => World.frozen?_of_block (w := w) (a := ⟨b, o, none⟩) hk
  exact ⟨(e 0).trans h.c0, (e 1).trans h.c1, (f 0).trans h.f0, (f 1).trans h.f1, Nat.lt_of_lt_of_le h.lt ho.size⟩
theorem BoxW.keep (h : BoxW w b x y) (hb : Below w.heap.size w w') : BoxW w' b x y := h.only (S := fun _ => False) (Only.of_below hb) (fun h => h)
theorem BoxW.low {B : Nat} (h : BoxW w b x y) (hb : Below B w w') (hB : b < B) : BoxW w' b x y :=
  h.only (S := fun j => B ≤ j) ⟨hb.os, hb.tape, hb.output, hb.size, fun k _ hk => hb.block k (by omega)⟩ (by omega)
theorem BoxW.set0 (h : BoxW w b x y) (u : Value) : BoxW (w.setCell ⟨b, 0, none⟩ u) b u y := by
  obtain ⟨h0, h1, g0, g1, hl⟩ := h
  exact ⟨by go_simp, by go_simp, by go_simp, by go_simp, by simpa using hl⟩
theorem BoxW.set1 (h : BoxW w b x y) (u : Value) : BoxW (w.setCell ⟨b, 1, none⟩ u) b x u := by
  obtain ⟨h0, h1, g0, g1, hl⟩ := h
  exact ⟨by go_simp, by go_simp, by go_simp, by go_simp, by simpa using hl⟩
end
end Go.Proofs.YtohodehmidbmlaaDoor
namespace Go.Proofs.YtohodehmidbmlaaDoor
open Go.RowKit

theorem flat_mem_len {b : UInt8} {p : ByteArray} : ∀ {t : List ByteArray}, p ∈ t → p.size ≤ (t.flatMap fun y => b :: y.data.toList).length
  | y :: t, h => by
    rw [List.flatMap_cons, List.length_append, List.length_cons]
    rcases List.mem_cons.1 h with rfl | h
    · have : p.size = p.data.toList.length := rfl
      omega
    · have := flat_mem_len (b := b) h
      omega
theorem joinP_mem_len {b : UInt8} {p : ByteArray} {l : List ByteArray} (h : p ∈ l) : p.size ≤ (joinP b l).length := by
  match l, h with
  | x :: t, h =>
    rw [joinP, List.length_append]
    rcases List.mem_cons.1 h with rfl | h
    · have : p.size = p.data.toList.length := rfl
      omega
    · have := flat_mem_len (b := b) h
      omega
theorem part_le (s : ByteArray) (b : UInt8) : ∀ p ∈ parts s b.toNat, p.size ≤ s.size := by
  intro p hp
  have h := joinP_mem_len (b := b) hp
  rw [← joinP_joinB, joinB_parts] at h
  exact h
theorem three_size (x y : ByteArray) (b : UInt8) : (x ++ ⟨#[b]⟩ ++ y).size = x.size + 1 + y.size := by
  rw [ByteArray.size_append, ByteArray.size_append]; rfl
theorem parts_le2 {y : ByteArray} {b : UInt8} {M : Nat} (h : y.size + 1 ≤ M) : (parts y b.toNat).length ≤ M := Nat.le_trans (parts_len y _) h
theorem vals_small {x y : ByteArray} (h : x.size + 1 + y.size ≤ 1048576) : attrSmall ⟨x, [], parts y 44⟩ :=
  ⟨by simp only; omega, fun s hs => by have := part_le y 44 s hs; omega, by simp, by have := parts_len y 44; simp only; omega⟩
theorem cuts_small {x y : ByteArray} (h : x.size + 1 + y.size ≤ 1048576) : attrSmall ⟨x, numsOf (parts y 44), []⟩ :=
  ⟨by simp only; omega, by simp, by have := parts_len y 44; unfold numsOf; simp only [List.length_map]; omega, by simp⟩
theorem none_small : attrSmall ⟨ByteArray.empty, [], []⟩ := ⟨by decide, by simp, by simp, by simp⟩
theorem numsOf_snoc {l : List ByteArray} {k : Nat} (h : k < l.length) : numsOf (l.take (k + 1)) = numsOf (l.take k) ++ [(rdS (l[k]?.getD ByteArray.empty)).1] := by
  unfold numsOf
  rw [List.take_succ_eq_append_getElem h, List.map_append, List.getElem?_eq_getElem h]; rfl
theorem numsOk_snoc {l : List ByteArray} {k : Nat} (h : k < l.length) (h1 : numsOk (l.take k) = true) (h2 : (rdS (l[k]?.getD ByteArray.empty)).2 = true) : numsOk (l.take (k + 1)) = true := by
  unfold numsOk at *
  rw [List.take_succ_eq_append_getElem h, List.all_append, h1]
  rw [List.getElem?_eq_getElem h, Option.getD_some] at h2
  simp [h2]
theorem numsOk_no {l : List ByteArray} {k : Nat} (h : k < l.length) (h2 : (rdS (l[k]?.getD ByteArray.empty)).2 = false) : numsOk l = false := by
  rw [← Bool.not_eq_true]
  intro h3
  unfold numsOk at h3
  rw [List.all_eq_true] at h3
  rw [List.getElem?_eq_getElem h, Option.getD_some] at h2
  rw [h3 _ (List.getElem_mem h)] at h2
  cases h2
theorem attrsOf_snoc {l : List ByteArray} {k : Nat} (h : k < l.length) : attrsOf (l.take (k + 1)) = attrsOf (l.take k) ++ [(attrOf (l[k]?.getD ByteArray.empty)).getD default] := by
  unfold attrsOf
  rw [List.take_succ_eq_append_getElem h, List.map_append, List.getElem?_eq_getElem h]; rfl
theorem attrsOk_snoc {l : List ByteArray} {k : Nat} (h : k < l.length) (h1 : attrsOk (l.take k) = true) (h2 : (attrOf (l[k]?.getD ByteArray.empty)).isSome = true) : attrsOk (l.take (k + 1)) = true := by
  unfold attrsOk at *
  rw [List.take_succ_eq_append_getElem h, List.all_append, h1]
  rw [List.getElem?_eq_getElem h, Option.getD_some] at h2
  simp [h2]
theorem attrsOk_no {l : List ByteArray} {k : Nat} (h : k < l.length) (h2 : (attrOf (l[k]?.getD ByteArray.empty)).isSome = false) : attrsOk l = false := by
  rw [← Bool.not_eq_true]
  intro h3
  unfold attrsOk at h3
  rw [List.all_eq_true] at h3
  rw [List.getElem?_eq_getElem h, Option.getD_some] at h2
  rw [h3 _ (List.getElem_mem h)] at h2
  cases h2
theorem attrB_small {a : AttrD} (h : attrB a = true) : attrSmall a := by
  have hw := attrB_word h
  have hn : a.name.size ≤ 8 := by
    unfold wordB at hw
    rw [Bool.and_eq_true] at hw
    have := inB_iff.1 hw.1
    omega
  rcases attrB_parts h with ⟨h1, h2, h3, h4⟩ | ⟨h1, h2, h3, h4, h5⟩
  · refine ⟨by omega, fun s hs => ?_, by omega, by omega⟩
    have := (attrB_words h h1 s hs).2
    omega
  · have e : a.vals = [] := List.eq_nil_of_length_eq_zero h1
    exact ⟨by omega, by rw [e]; simp, by omega, by omega⟩
theorem attrsOf_small (l : List ByteArray) : ∀ a ∈ attrsOf l, attrSmall a := by
  intro a ha
  unfold attrsOf at ha
  obtain ⟨s, -, rfl⟩ := List.mem_map.1 ha
  rcases h : attrOf s with _ | a
  · exact none_small
  · exact attrB_small (attrOf_some h).1
end Go.Proofs.YtohodehmidbmlaaDoor
namespace Go.Proofs.YtohodehmidbmlaaDoor
open Go.RowKit
set_option maxRecDepth 100000

/-- A cursor in block b: the bytes, where it stands, its mix. -/
def Cur (w : World) (b : Nat) : Prop :=
  ∃ (A : Option Addr) (n c : Nat) (l : List UInt8) (i : Nat) (h : Int), w.cell? ⟨b, 0, none⟩ = some (.slice A n c) ∧ w.cell? ⟨b, 1, none⟩ = some (.int .i64 i) ∧ w.cell? ⟨b, 2, none⟩ = some (.int .i64 h) ∧
    w.frozen? ⟨b, 1, none⟩ = false ∧ w.frozen? ⟨b, 2, none⟩ = false ∧ b < w.heap.size ∧ i ≤ n ∧ n ≤ 1048576 ∧ Bytes w A n l ∧ (0 < n → ∀ a, A = some a → a.block < b)
theorem Cur.keep {w w' : World} {b : Nat} (h : Cur w b) (hb : Below w.heap.size w w') : Cur w' b := by
  obtain ⟨A, n, c, l, i, x, h0, h1, h2, f1, f2, hlt, hi, hn, hl, ha⟩ := h
  exact ⟨A, n, c, l, i, x, (hb.cell (p := ⟨b, 0, none⟩) hlt).trans h0, (hb.cell (p := ⟨b, 1, none⟩) hlt).trans h1, (hb.cell (p := ⟨b, 2, none⟩) hlt).trans h2,
    (hb.frozen (p := ⟨b, 1, none⟩) hlt).trans f1, (hb.frozen (p := ⟨b, 2, none⟩) hlt).trans f2, Nat.lt_of_lt_of_le hlt hb.size, hi, hn, hl.keep hb, ha⟩

theorem Slc.only {α : Type} {sz : Nat} {E : World → List Value → α → Prop} {S : Nat → Prop} {w w' : World} {A : Option Addr} {n : Nat} {l : List α}
    (h : Slc sz E w A n l) (hE : ∀ cs x, E w cs x → E w' cs x) (ho : Only S w w') (ha : 0 < n → ∀ a, A = some a → ¬ S a.block) : Slc sz E w' A n l :=
  ⟨h.1, fun hn => by
    obtain ⟨ad, e, hlt, hc⟩ := h.2 hn
    refine ⟨ad, e, Nat.lt_of_lt_of_le hlt ho.size, fun i hi => ?_⟩
    obtain ⟨cs, h1, h2, h3⟩ := hc i hi
    exact ⟨cs, h1, hE _ _ h2, fun j u hu => (ho.cell (by rw [block_of_add]; exact ha hn ad e) (by rw [block_of_add]; exact hlt)).trans (h3 j u hu)⟩⟩
theorem Bytes.only {S : Nat → Prop} {w w' : World} {A : Option Addr} {n : Nat} {l : List UInt8} (h : Bytes w A n l) (ho : Only S w w') (ha : 0 < n → ∀ a, A = some a → ¬ S a.block) : Bytes w' A n l := Slc.only h (fun _ _ h => h) ho ha
theorem Ints.only {S : Nat → Prop} {w w' : World} {A : Option Addr} {n : Nat} {l : List Int} (h : Ints w A n l) (ho : Only S w w') (ha : 0 < n → ∀ a, A = some a → ¬ S a.block) : Ints w' A n l := Slc.only h (fun _ _ h => h) ho ha
theorem Strs.only {S : Nat → Prop} {w w' : World} {A : Option Addr} {n : Nat} {l : List ByteArray} (h : Strs w A n l) (ho : Only S w w') (ha : 0 < n → ∀ a, A = some a → ¬ S a.block) : Strs w' A n l := Slc.only h (fun _ _ h => h) ho ha

theorem Cur.next {w W : World} {b n c i : Nat} {A : Option Addr} {l : List UInt8} {y : Int} (k0 : w.cell? ⟨b, 0, none⟩ = some (.slice A n c)) (k1 : w.cell? ⟨b, 1, none⟩ = some (.int .i64 i)) (k2 : w.cell? ⟨b, 2, none⟩ = some (.int .i64 y))
    (g1 : w.frozen? ⟨b, 1, none⟩ = false) (g2 : w.frozen? ⟨b, 2, none⟩ = false) (hlt : b < w.heap.size) (hi : i + 1 ≤ n) (hn : n ≤ 1048576) (hl : Bytes w A n l) (ha : 0 < n → ∀ a, A = some a → a.block < b) (hd : Below w.heap.size w W) :
    Cur (W.setCell ⟨b, 1, none⟩ (.int .i64 ((i : Int) + 1))) b := by
  have q0 := (hd.cell (p := ⟨b, 0, none⟩) hlt).trans k0
  have q1 := (hd.cell (p := ⟨b, 1, none⟩) hlt).trans k1
  have q2 := (hd.cell (p := ⟨b, 2, none⟩) hlt).trans k2
  have f1 := (hd.frozen (p := ⟨b, 1, none⟩) hlt).trans g1
  have f2 := (hd.frozen (p := ⟨b, 2, none⟩) hlt).trans g2
  have hsz := hd.size
  exact ⟨A, n, c, l, i + 1, y, by go_simp, by go_simp, by go_simp, by go_simp, by go_simp, by simp; omega, hi, hn,
    (hl.keep hd).only ((Only.refl (· = b) W).setCell (p := ⟨b, 1, none⟩) rfl _) (fun h a e (q : a.block = b) => by have := ha h a e; omega), ha⟩
theorem and_le (z : Int) (M : Nat) (hM : M < 4611686018427387904) : 0 ≤ bits .and .i64 z M ∧ bits .and .i64 z M ≤ M := by
  have h : ((BitVec.ofInt 64 z) &&& (BitVec.ofInt 64 (M : Int))).toNat ≤ M := by
    rw [BitVec.toNat_and]
    refine Nat.le_trans Nat.and_le_right ?_
    rw [BitVec.toNat_ofInt]
    omega
  have e : bits .and .i64 z M = IntKind.i64.wrap ((BitVec.ofInt 64 z) &&& (BitVec.ofInt 64 (M : Int))).toNat := rfl
  rw [e, IntWalk.i64_in _ (by omega)]
  omega

/-- A cursor lies below B: what is done to blocks from B on does not touch it. -/
theorem Cur.low {w w' : World} {b B : Nat} (h : Cur w b) (hB : b < B) (hb : Below B w w') : Cur w' b := by
  obtain ⟨A, n, c, l, i, x, h0, h1, h2, f1, f2, hlt, hi, hn, hl, ha⟩ := h
  have ho : Only (fun j => B ≤ j) w w' := ⟨hb.os, hb.tape, hb.output, hb.size, fun k _ hk => hb.block k (by omega)⟩
  exact ⟨A, n, c, l, i, x, (hb.cell (p := ⟨b, 0, none⟩) hB).trans h0, (hb.cell (p := ⟨b, 1, none⟩) hB).trans h1, (hb.cell (p := ⟨b, 2, none⟩) hB).trans h2,
    (hb.frozen (p := ⟨b, 1, none⟩) hB).trans f1, (hb.frozen (p := ⟨b, 2, none⟩) hB).trans f2, Nat.lt_of_lt_of_le hlt hb.size, hi, hn,
    hl.only ho (fun h a e (q : B ≤ a.block) => by have := ha h a e; omega), ha⟩
theorem Only.low {S : Nat → Prop} {w w1 w2 : World} (h : Only S w w1) (hb : Below w.heap.size w1 w2) : Only S w w2 :=
  ⟨hb.os.trans h.os, hb.tape.trans h.tape, hb.output.trans h.output, Nat.le_trans h.size hb.size, fun k hk hn => (hb.block k hk).trans (h.block k hk hn)⟩
theorem Cur.lt {w : World} {b : Nat} (h : Cur w b) : b < w.heap.size := by
  obtain ⟨_, _, _, _, _, _, _, _, _, _, _, hlt, _⟩ := h
  exact hlt

set_option maxHeartbeats 4000000 in
theorem l1Byte_any (b : Nat) (w : World) (h : Cur w b) :
    Calls Tryd.prog 136 #[.pointer (some ⟨b, 0, none⟩)] w fun e w' => ∃ x : Int, e = .returned (.int .i64 x) ∧ 0 ≤ x ∧ x ≤ 255 ∧ Cur w' b ∧ Only (· = b) w w' := by
  obtain ⟨A, n, c, l, i, x, h0, h1, h2, f1, f2, hlt, hi, hn, hl, ha⟩ := h
  go_enter Tryd.func136, Tryd.ntmps136
  go_wp2
  obtain ⟨y, hy⟩ : ∃ y, y = wrap64 (wrap64 (x * 6364136223846793005) + 1442695040888963407) := ⟨_, rfl⟩
  rw [← hy]
  clear hy
  have k0 : (w.setCell ⟨b, 2, none⟩ (.int .i64 y)).cell? ⟨b, 0, none⟩ = some (.slice A n c) := by go_simp
  have k1 : (w.setCell ⟨b, 2, none⟩ (.int .i64 y)).cell? ⟨b, 1, none⟩ = some (.int .i64 i) := by go_simp
  have k2 : (w.setCell ⟨b, 2, none⟩ (.int .i64 y)).cell? ⟨b, 2, none⟩ = some (.int .i64 y) := by go_simp
  have g1 : (w.setCell ⟨b, 2, none⟩ (.int .i64 y)).frozen? ⟨b, 1, none⟩ = false := by go_simp
  have g2 : (w.setCell ⟨b, 2, none⟩ (.int .i64 y)).frozen? ⟨b, 2, none⟩ = false := by go_simp
  have hO : Only (· = b) w (w.setCell ⟨b, 2, none⟩ (.int .i64 y)) := (Only.refl (· = b) w).setCell (p := ⟨b, 2, none⟩) rfl _
  have HL := hide (hl.only hO (fun h a e (q : a.block = b) => by have := ha h a e; omega))
  have hlt2 : b < (w.setCell ⟨b, 2, none⟩ (.int .i64 y)).heap.size := by simpa using hlt
  clear h0 h1 h2 f1 f2 hlt hl
  generalize w.setCell ⟨b, 2, none⟩ (.int .i64 y) = W at *
  have HA := hide ha
  clear ha
  go_quiet (fail)
  obtain ⟨X, hX, hX0, hX1⟩ : ∃ X, X = bits BinOp.and IntKind.i64 (bits BinOp.xor IntKind.i64 (y / 8589934592) (y / 35184372088832)) 255 ∧ 0 ≤ X ∧ X ≤ 255 := ⟨_, rfl, and_le _ 255 (by omega)⟩
  rw [← hX]
  clear hX
  generalize hy1 : y / 8589934592 = y1
  generalize hy2 : y / 35184372088832 = y2
  clear hy1 hy2
  go_wp2
  by_cases hlt : i < n
  · obtain ⟨ad, rfl, hub, hcell⟩ := HL.out.at_ hlt
    have hi0 : (0 : Int) ≤ i := by omega
    have hi1 : (i : Int) < n := by omega
    go_quiet (fail)
    go_wp2
    go_quiet (fail)
    generalize (l[i]?.getD 0).toNat = v at *
    have hx := and_le (wrap64 (X + wrap64 (v : Int))) 255 (by omega)
    obtain ⟨Y, hY, hY0, hY1⟩ : ∃ Y, Y = bits .and .i64 (wrap64 (X + wrap64 (v : Int))) 255 ∧ 0 ≤ Y ∧ Y ≤ 255 := ⟨_, rfl, hx⟩
    clear hx
    rw [← hY]
    clear hY
    go_wp2
    go_ret
    refine ⟨Y, rfl, hY0, hY1, Cur.next k0 k1 k2 g1 g2 hlt2 (by omega) hn HL.out HA.out ?_, hO.trans ((Only.of_below (S := (· = b)) ?_).setCell (p := ⟨b, 1, none⟩) rfl _)⟩ <;>
      exact below_drewN (Below.refl _ _) _
  · go_quiet (fail)
    go_wp2
    go_ret
    refine ⟨X, rfl, hX0, hX1, Cur.keep ⟨A, n, c, l, i, y, k0, k1, k2, g1, g2, hlt2, hi, hn, HL.out, HA.out⟩ ?_, hO.trans (Only.of_below ?_)⟩ <;>
      exact below_drewN (below_drewN (Below.refl _ _) _) _

theorem emod_in {x n : Int} (hn : 0 < n) : 0 ≤ x % n ∧ x % n < n := ⟨Int.emod_nonneg _ (by omega), Int.emod_lt_of_pos _ hn⟩

set_option maxHeartbeats 4000000 in
theorem l1Below_any (b : Nat) (n : Int) (w : World) (h : Cur w b) (hn : n ≤ 9223372036854775807) :
    Calls Tryd.prog 99 #[.pointer (some ⟨b, 0, none⟩), .int .i64 n] w fun e w' => ∃ x : Int, e = .returned (.int .i64 x) ∧ 0 ≤ x ∧ (0 < n → x < n) ∧ (n ≤ 0 → x = 0) ∧ Cur w' b ∧ Only (· = b) w w' := by
  have HC := hide h
  clear h
  by_cases h0 : n ≤ 0
  · go_enter Tryd.func99, Tryd.ntmps99
    go_wp2
    go_ret
    exact ⟨0, rfl, by omega, fun h => by omega, fun _ => rfl, HC.out, Only.refl _ _⟩
  · have hne : (n == 0) = false := beq_eq_false_iff_ne.2 (by omega)
    by_cases h1 : n ≤ 256
    · go_enter Tryd.func99, Tryd.ntmps99
      go_wp2_with (fail)
      refine (l1Byte_any b _ HC.out).mono ?_
      rintro e w1 ⟨x, rfl, hx0, hx1, hC1, ho1⟩
      have HC1 := hide hC1
      clear hC1
      go_wp2
      go_ret
      exact ⟨x % n, rfl, (emod_in h0).1, fun _ => (emod_in h0).2, fun h => by omega, HC1.out, ho1⟩
    · go_enter Tryd.func99, Tryd.ntmps99
      go_wp2_with (fail)
      refine (l1Byte_any b _ HC.out).mono ?_
      rintro e w1 ⟨x, rfl, hx0, hx1, hC1, ho1⟩
      have HC1 := hide hC1
      clear hC1
      go_wp2_with (fail)
      refine (l1Byte_any b _ HC1.out).mono ?_
      rintro e w2 ⟨y, rfl, hy0, hy1, hC2, ho2⟩
      have HC2 := hide hC2
      clear hC2
      go_wp2_with (fail)
      refine (l1Byte_any b _ HC2.out).mono ?_
      rintro e w3 ⟨z, rfl, hz0, hz1, hC3, ho3⟩
      have HC3 := hide hC3
      clear hC3
      go_wp2_with (fail)
      refine (l1Byte_any b _ HC3.out).mono ?_
      rintro e w4 ⟨v, rfl, hv0, hv1, hC4, ho4⟩
      have HC4 := hide hC4
      clear hC4
      go_wp2
      go_ret
      exact ⟨(x * 16777216 + y * 65536 + z * 256 + v) % n, rfl, (emod_in h0).1, fun _ => (emod_in h0).2, fun h => by omega, HC4.out, ((ho1.trans ho2).trans ho3).trans ho4⟩

set_option maxHeartbeats 4000000 in
theorem l1Once_any (b : Nat) (n : Int) (w : World) (h : Cur w b) (hn : n ≤ 9223372036854775807) :
    Calls Tryd.prog 149 #[.pointer (some ⟨b, 0, none⟩), .int .i64 n] w fun e w' => ∃ x : Bool, e = .returned (.bool x) ∧ Cur w' b ∧ Only (· = b) w w' := by
  have HC := hide h
  clear h
  go_enter Tryd.func149, Tryd.ntmps149
  go_wp2_with (fail)
  refine (l1Below_any b _ _ HC.out hn).mono ?_
  rintro e w1 ⟨x, rfl, hx0, hx1, hx2, hC1, ho1⟩
  have HC1 := hide hC1
  have HO := hide ho1
  clear hC1 hx1 hx2 ho1
  go_wp2
  go_ret
  exact ⟨_, rfl, HC1.out, HO.out⟩

set_option maxHeartbeats 4000000 in
theorem l1Pick_any (b : Nat) (A : Option Addr) (n c : Nat) (l : List ByteArray) (w : World) (h : Cur w b) (hl : Strs w A n l) (ha : 0 < n → ∀ a, A = some a → a.block ≠ b) (hn : 0 < n) (hn2 : n ≤ 1048576) :
    Calls Tryd.prog 100 #[.pointer (some ⟨b, 0, none⟩), .slice A n c] w fun e w' => ∃ k : Nat, k < n ∧ e = .returned (.string (l[k]?.getD ByteArray.empty)) ∧ Cur w' b ∧ Only (· = b) w w' := by
  have HC := hide h
  have HL := hide hl
  have HA := hide ha
  clear h hl ha
  go_enter Tryd.func100, Tryd.ntmps100
  go_wp2_with (fail)
  refine (l1Below_any b _ _ HC.out (by omega)).mono ?_
  rintro e w1 ⟨x, rfl, hx0, hx1, -, hC1, ho1⟩
  have HC1 := hide hC1
  clear hC1
  have hx2 : x < n := hx1 (by omega)
  clear hx1
  obtain ⟨k, rfl⟩ : ∃ k : Nat, x = k := ⟨x.toNat, by omega⟩
  obtain ⟨ad, rfl, hub, hcell⟩ := (HL.out.only ho1 (fun h a e => HA.out h a e)).at_ (k := k) (by omega)
  have HO := hide ho1
  clear ho1
  go_wp2
  go_ret
  exact ⟨k, by omega, rfl, HC1.out, HO.out⟩

set_option maxHeartbeats 4000000 in
theorem l1PickInt_any (b : Nat) (A : Option Addr) (n c : Nat) (l : List Int) (w : World) (h : Cur w b) (hl : Ints w A n l) (ha : 0 < n → ∀ a, A = some a → a.block ≠ b) (hn : 0 < n) (hn2 : n ≤ 1048576) :
    Calls Tryd.prog 120 #[.pointer (some ⟨b, 0, none⟩), .slice A n c] w fun e w' => ∃ k : Nat, k < n ∧ e = .returned (.int .i64 (l[k]?.getD 0)) ∧ Cur w' b ∧ Only (· = b) w w' := by
  have HC := hide h
  have HL := hide hl
  have HA := hide ha
  clear h hl ha
  go_enter Tryd.func120, Tryd.ntmps120
  go_wp2_with (fail)
  refine (l1Below_any b _ _ HC.out (by omega)).mono ?_
  rintro e w1 ⟨x, rfl, hx0, hx1, -, hC1, ho1⟩
  have HC1 := hide hC1
  clear hC1
  have hx2 : x < n := hx1 (by omega)
  clear hx1
  obtain ⟨k, rfl⟩ : ∃ k : Nat, x = k := ⟨x.toNat, by omega⟩
  obtain ⟨ad, rfl, hub, hcell⟩ := (HL.out.only ho1 (fun h a e => HA.out h a e)).at_ (k := k) (by omega)
  have HO := hide ho1
  clear ho1
  go_wp2
  go_ret
  exact ⟨k, by omega, rfl, HC1.out, HO.out⟩

/-- A new cursor. -/
theorem Cur.new (w : World) (A : Option Addr) (n c : Nat) (l : List UInt8) (h : Int) (t : TypeId) (hl : Bytes w A n l) (hn : n ≤ 1048576) : Cur (w.alloc (.cells #[.slice A n c, .int .i64 0, .int .i64 h] t)) w.heap.size :=
  ⟨A, n, c, l, 0, h, by rw [cell_of_row _ w.heap.size 0 #[.slice A n c, .int .i64 0, .int .i64 h] t (0, 0) (heap_alloc_new w _)]; rfl,
    by rw [cell_of_row _ w.heap.size 1 #[.slice A n c, .int .i64 0, .int .i64 h] t (0, 0) (heap_alloc_new w _)]; rfl,
    by rw [cell_of_row _ w.heap.size 2 #[.slice A n c, .int .i64 0, .int .i64 h] t (0, 0) (heap_alloc_new w _)]; rfl,
    by go_simp, by go_simp, by simp, Nat.zero_le _, hn, hl.keep ((Below.refl _ _).alloc (Nat.le_refl _) _), fun h a e => by obtain ⟨ad, rfl, hlt, -⟩ := hl.2 h; obtain rfl := Option.some.inj e; omega⟩

set_option maxHeartbeats 4000000 in
theorem l1New_any (A : Option Addr) (n c : Nat) (l : List UInt8) (w : World) (hl : Bytes w A n l) (hn : n ≤ 1048576) :
    Calls Tryd.prog 97 #[.slice A n c] w fun e w' => ∃ b, e = .returned (.pointer (some ⟨b, 0, none⟩)) ∧ w.heap.size ≤ b ∧ Cur w' b ∧ Below w.heap.size w w' := by
  have HL := hide hl
  clear hl
  go_enter Tryd.func97, Tryd.ntmps97
  go_wp2
  go_loopw [3, 4] (fun h i wr => ∃ (k : Nat) (x : Int), k ≤ n ∧ k ≤ 4000 ∧ i = .int .i64 k ∧ h = .int .i64 x ∧ wr = w) (fun _ i _ => n - (intOf i).toNat)
  case atStart => exact ⟨0, _, Nat.zero_le _, Nat.zero_le _, rfl, rfl, rfl⟩
  case round =>
    obtain ⟨k, x, hk, hk2, rfl, rfl, rfl⟩ := hrel
    by_cases hlt : k < n
    · by_cases hlt2 : k < 4000
      · obtain ⟨ad, rfl, hub, hcell⟩ := HL.out.at_ hlt
        go_wp2
        go_roundw
        case rel => exact ⟨k + 1, _, by omega, by omega, by go_num, rfl, trivial⟩
        case measure => simp [intOf]; omega
      · go_wp2
        go_ret
        exact ⟨_, rfl, Nat.le_refl _, Cur.new _ _ _ _ _ _ _ HL.out hn, (Below.refl _ _).alloc (Nat.le_refl _) _⟩
    · go_wp2
      go_ret
      exact ⟨_, rfl, Nat.le_refl _, Cur.new _ _ _ _ _ _ _ HL.out hn, (Below.refl _ _).alloc (Nat.le_refl _) _⟩
end Go.Proofs.YtohodehmidbmlaaDoor
namespace Go.Proofs.YtohodehmidbmlaaDoor
open Go.RowKit
set_option maxRecDepth 100000

/-- An example that owns its bins. -/
def ExO (B H : Nat) (w : World) (x0 x1 : Value) (d : ExD) : Prop := ∃ A n c, x0 = .slice A n c ∧ x1 = .int .i64 d.cls ∧ w.ownsRow B 3 1 (.slice A n c) n (d.bins.map (Value.int .i64)) ∧ n ≤ 1048576 ∧
  (∀ k, Value.ownBlock (.slice A n c) = some k → k < H) ∧ (Lit.int .i64 d.cls).wf = true
theorem ExO.m {B H : Nat} {w : World} {x0 x1 : Value} {d : ExD} (h : ExO B H w x0 x1 d) : ExM w x0 x1 d := by
  obtain ⟨A, n, c, h1, h2, h3, h4, h5, h6⟩ := h
  exact ⟨A, n, c, h1, h2, ints_of h3, h4, h6⟩
theorem ExO.only {S : Nat → Prop} {B H : Nat} {w w' : World} {x0 x1 : Value} {d : ExD} (h : ExO B H w x0 x1 d) (ho : Only S w w') (hs : ∀ k, S k → k < B ∨ H ≤ k) : ExO B H w' x0 x1 d := by
  obtain ⟨A, n, c, h1, h2, h3, h4, h5, h6⟩ := h
  exact ⟨A, n, c, h1, h2, own_only h3 ho (fun k hk hS => by have := (h3.lt k hk).1; have := h5 k hk; have := hs k hS; omega), h4, h5, h6⟩
theorem ExO.below {B H : Nat} {w w' : World} {x0 x1 : Value} {d : ExD} (h : ExO B H w x0 x1 d) (hb : Below w.heap.size w w') : ExO B H w' x0 x1 d := by
  obtain ⟨A, n, c, h1, h2, h3, h4, h5, h6⟩ := h
  exact ⟨A, n, c, h1, h2, own_below h3 hb, h4, h5, h6⟩
theorem ExO.one {B H : Nat} {w : World} {x0 x1 : Value} {d : ExD} (h : ExO B H w x0 x1 d) : x0.oneCell' = true ∧ x1.oneCell' = true := by
  obtain ⟨A, n, c, rfl, rfl, h3⟩ := h
  exact ⟨rfl, rfl⟩
def markExD (k0 : Int) (d : ExD) : ExD := ⟨marksI k0 d.bins.length, d.cls⟩

set_option maxHeartbeats 1000000 in
theorem markEx_any (B H : Nat) (x0 x1 : Value) (d : ExD) (k0 : Int) (w : World) (h : ExO B H w x0 x1 d) (h0 : 0 ≤ k0) (h1 : k0 ≤ 1048576) :
    Calls Tryd.prog 29 #[.agg #[x0, x1], .int .i64 k0] w fun e w' => e = .returned (.int .i64 (k0 + d.bins.length)) ∧ ExO B H w' x0 x1 (markExD k0 d) ∧ Only (fun j => B ≤ j ∧ j < H) w w' := by
  obtain ⟨A, n, c, rfl, rfl, h3, h4, h5, h6⟩ := h
  have hal : Below w.heap.size w (w.alloc (.cells #[.slice A n c, .int .i64 d.cls] 30)) := (Below.refl _ _).alloc (Nat.le_refl _) _
  have hlen := hide (show n = d.bins.length from (ints_of h3).1)
  have HO := hide (own_below h3 hal)
  have hS := hide (show ∀ k, Value.ownBlock (.slice A n c) = some k → B ≤ k ∧ k < H from fun k hk => ⟨(h3.lt k hk).1, h5 k hk⟩)
  have h5' := hide h5
  clear h3 h5
  go_enter Tryd.func29, Tryd.ntmps29
  go_wp2_with (fail)
  refine (markIntS_any B A n c d.bins _ _ HO.out (by omega) (by omega) (by omega)).mono ?_
  rintro e w1 ⟨rfl, ho1, hg1⟩
  have hOn := hide ((Only.of_below (S := fun j => B ≤ j ∧ j < H) hal).trans (Only.of_grown (S := fun j => B ≤ j ∧ j < H) hg1 fun k hk => hS.out k hk))
  have HO1 := hide ho1
  clear ho1 hg1
  go_wp2
  go_ret
  exact ⟨ret_int (by rw [← hlen.out]), ⟨A, n, c, rfl, rfl, by rw [markExD, ← hlen.out]; exact HO1.out, h4, h5'.out, h6⟩, hOn.out⟩

set_option maxHeartbeats 1000000 in
theorem heldEx_any (x0 x1 : Value) (d : ExD) (k0 : Int) (w : World) (h : ExM w x0 x1 (markExD k0 d)) (h0 : 0 ≤ k0) (h1 : k0 ≤ 1048576) :
    Calls Tryd.prog 30 #[.agg #[x0, x1], .int .i64 k0] w fun e w' => e = .returned (.int .i64 (k0 + d.bins.length)) ∧ Below w.heap.size w w' := by
  obtain ⟨A, n, c, rfl, rfl, h3, h4, h6⟩ := h
  have z1 : n = d.bins.length := by have := h3.1; rwa [markExD, marksI_len] at this
  have hal : Below w.heap.size w (w.alloc (.cells #[.slice A n c, .int .i64 d.cls] 30)) := (Below.refl _ _).alloc (Nat.le_refl _) _
  have hc : Ints w A n (marksI k0 n) := by rwa [markExD, ← z1] at h3
  have HC := hide (hc.keep hal)
  have hz := hide z1
  clear h3 hc z1
  go_enter Tryd.func30, Tryd.ntmps30
  go_wp2_with (fail)
  refine (heldIntS_any A n c _ _ HC.out (by omega) (by omega) (by omega)).mono ?_
  rintro e w1 ⟨rfl, rfl⟩
  go_wp2
  go_ret
  exact ⟨ret_int (by rw [← hz.out]), hal⟩
end Go.Proofs.YtohodehmidbmlaaDoor
namespace Go.Proofs.YtohodehmidbmlaaDoor
open Go.RowKit
set_option maxRecDepth 100000

theorem own_lower {w : World} {B B' : Nat} {e : TypeId} {sz n : Nat} {v : Value} {xs : List Value} (h : w.ownsRow B e sz v n xs) (hB : B' ≤ B) : w.ownsRow B' e sz v n xs := by
  obtain ⟨h1, h2⟩ := h
  refine ⟨h1, ?_⟩
  rcases h2 with h2 | ⟨g, cap, cur, e, hb, rest⟩
  · exact .inl h2
  · exact .inr ⟨g, cap, cur, e, Nat.le_trans hB hb, rest⟩
/-- The result's box r, the example's box x, its bins; what lies below w stays but for S, whose blocks are cursors. -/
structure EState (w : World) (S : Nat → Prop) (r x : Nat) (W : World) (G : Option Addr) (n k : Nat) (l : List Int) (cls : Int) : Prop where
  ord : w.heap.size ≤ r ∧ w.heap.size ≤ x ∧ r ≠ x
  low : ∀ j, S j → j < w.heap.size
  res : BoxW W r (.slice none 0 0) (.int .i64 0)
  box : BoxW W x (.slice G n k) (.int .i64 cls)
  own : W.ownsRow w.heap.size 3 1 (.slice G n k) n (l.map (Value.int .i64))
  ap : ∀ j, Value.ownBlock (.slice G n k) = some j → j ≠ x ∧ j ≠ r
  cur : ∀ j, S j → Cur W j
  only : Only S w W
section
variable {w W W2 : World} {S : Nat → Prop} {r x : Nat} {G : Option Addr} {n k : Nat} {l : List Int} {cls : Int}
theorem EState.draw (h : EState w S r x W G n k l cls) (hC : ∀ j, S j → Cur W2 j) (ho : Only S W W2) : EState w S r x W2 G n k l cls := by
  have ho' := h.ord
  exact ⟨h.ord, h.low, h.res.only ho (fun e => by have := h.low _ e; omega), h.box.only ho (fun e => by have := h.low _ e; omega), own_only h.own ho (fun j hj e => by have := h.low _ e; have := (h.own.lt j hj).1; omega), h.ap, hC, h.only.trans ho⟩
theorem EState.keep (h : EState w S r x W G n k l cls) (hb : Below W.heap.size W W2) : EState w S r x W2 G n k l cls :=
  ⟨h.ord, h.low, h.res.keep hb, h.box.keep hb, own_below h.own hb, h.ap, fun j hj => (h.cur j hj).keep hb, h.only.trans (Only.of_below hb)⟩
/-- What stays when the bins' row is written or laid anew. -/
theorem EState.turn {w9 : World} (h : EState w S r x W G n k l cls) (hb : Below w.heap.size W w9) (hg : W.grownBy w9 (Value.ownBlock (.slice G n k))) :
    BoxW w9 r (.slice none 0 0) (.int .i64 0) ∧ BoxW w9 x (.slice G n k) (.int .i64 cls) ∧ Only S w w9 ∧ ∀ j, S j → Cur w9 j := by
  have hs : Only (fun j => Value.ownBlock (.slice G n k) = some j) W w9 := Only.of_grown hg fun k hk => hk
  exact ⟨h.res.only hs (fun e => (h.ap _ e).2 rfl), h.box.only hs (fun e => (h.ap _ e).1 rfl), h.only.low hb, fun j hj => Cur.low (h.cur j hj) (h.low j hj) hb⟩
/-- One bin more. -/
theorem EState.item {w9 : World} {G' : Option Addr} {k' : Nat} {u : Int} (h : EState w S r x W G n k l cls) (hv : w9.ownsRow w.heap.size 3 1 (.slice G' (n + 1) k') (n + 1) (l.map (Value.int .i64) ++ [.int .i64 u])) (hb : Below w.heap.size W w9)
    (hg : W.grownBy w9 (Value.ownBlock (.slice G n k))) (hnew : ∀ g, Value.ownBlock (.slice G' (n + 1) k') = some g → Value.ownBlock (.slice G n k) = some g ∨ W.heap.size ≤ g) :
    EState w S r x (w9.setCell ⟨x, 0, none⟩ (.slice G' (n + 1) k')) G' (n + 1) k' (l ++ [u]) cls := by
  have ho' := h.ord
  have hr := h.res.lt
  have hx := h.box.lt
  obtain ⟨t1, t2, t3, t4⟩ := h.turn hb hg
  have hs := (Only.refl (fun j => x = j) w9).setCell (p := ⟨x, 0, none⟩) rfl (.slice G' (n + 1) k')
  have hlow : Below w.heap.size w9 (w9.setCell ⟨x, 0, none⟩ (.slice G' (n + 1) k')) := (Below.refl _ _).setCell (p := ⟨x, 0, none⟩) ho'.2.1 _
  have hap : ∀ g, Value.ownBlock (.slice G' (n + 1) k') = some g → g ≠ x ∧ g ≠ r := fun g hgg => by
    rcases hnew g hgg with q | q
    · exact h.ap g q
    · omega
  exact ⟨h.ord, h.low, t1.only hs (by show ¬ x = r; omega), t2.set0 _, own_only (by simpa using hv) hs (fun j hj e => (hap j hj).1 e.symm), hap, fun j hj => Cur.low (t4 j hj) (h.low j hj) hlow, t3.low hlow⟩
/-- One bin written. -/
theorem EState.elem {g : Nat} {i : Nat} {u : Int} (h : EState w S r x W G n k l cls) (hG : G = some ⟨g, 0, none⟩) (hst : (W.setCell ⟨g, i, none⟩ (.int .i64 u)).ownsRow w.heap.size 3 1 (.slice G n k) n ((l.set i u).map (Value.int .i64))) :
    EState w S r x (W.setCell ⟨g, i, none⟩ (.int .i64 u)) G n k (l.set i u) cls := by
  have hb : Value.ownBlock (.slice G n k) = some g := by rw [hG]; rfl
  have hgb := (h.own.lt g hb).1
  have hgx := h.ap g hb
  have hs := (Only.refl (fun j => g = j) W).setCell (p := ⟨g, i, none⟩) rfl (.int .i64 u)
  have hlow : Below w.heap.size W (W.setCell ⟨g, i, none⟩ (.int .i64 u)) := (Below.refl _ _).setCell (p := ⟨g, i, none⟩) hgb _
  exact ⟨h.ord, h.low, h.res.only hs hgx.2, h.box.only hs hgx.1, hst, h.ap, fun j hj => Cur.low (h.cur j hj) (h.low j hj) hlow, h.only.low hlow⟩
/-- The class written. -/
theorem EState.setCls (h : EState w S r x W G n k l cls) (u : Int) : EState w S r x (W.setCell ⟨x, 1, none⟩ (.int .i64 u)) G n k l u := by
  have ho' := h.ord
  have hs := (Only.refl (fun j => x = j) W).setCell (p := ⟨x, 1, none⟩) rfl (.int .i64 u)
  have hlow : Below w.heap.size W (W.setCell ⟨x, 1, none⟩ (.int .i64 u)) := (Below.refl _ _).setCell (p := ⟨x, 1, none⟩) ho'.2.1 _
  exact ⟨h.ord, h.low, h.res.only hs (by show ¬ x = r; omega), h.box.set1 _, own_only h.own hs (fun j hj e => (h.ap j hj).1 e.symm), h.ap, fun j hj => Cur.low (h.cur j hj) (h.low j hj) hlow, h.only.low hlow⟩
/-- The result written. -/
theorem EState.fin (h : EState w S r x W G n k l cls) (u0 u1 : Value) : ((W.setCell ⟨r, 0, none⟩ u0).setCell ⟨r, 1, none⟩ u1).ownsRow w.heap.size 3 1 (.slice G n k) n (l.map (Value.int .i64)) ∧
    (∀ j, S j → Cur ((W.setCell ⟨r, 0, none⟩ u0).setCell ⟨r, 1, none⟩ u1) j) ∧ Only S w ((W.setCell ⟨r, 0, none⟩ u0).setCell ⟨r, 1, none⟩ u1) := by
  have hs : Only (fun j => r = j) W ((W.setCell ⟨r, 0, none⟩ u0).setCell ⟨r, 1, none⟩ u1) := ((Only.refl _ W).setCell (p := ⟨r, 0, none⟩) rfl _).setCell (p := ⟨r, 1, none⟩) rfl _
  have hlow : Below w.heap.size W ((W.setCell ⟨r, 0, none⟩ u0).setCell ⟨r, 1, none⟩ u1) := ((Below.refl _ _).setCell (p := ⟨r, 0, none⟩) h.ord.1 _).setCell (p := ⟨r, 1, none⟩) h.ord.1 _
  exact ⟨own_only h.own hs (fun j hj e => (h.ap j hj).2 e.symm), fun j hj => Cur.low (h.cur j hj) (h.low j hj) hlow, h.only.low hlow⟩
end
end Go.Proofs.YtohodehmidbmlaaDoor
namespace Go.Proofs.YtohodehmidbmlaaDoor
open Go.RowKit
set_option maxRecDepth 100000

/-- The boxes of a walk that reads a row. -/
structure RPre (w : World) (s0 s1 : Value) (W0 W : World) : Prop where
  z : W0.heap.size = w.heap.size + 1
  b0 : Below w.heap.size w W0
  arg : BoxW W w.heap.size s0 s1
  res : BoxW W (w.heap.size + 1) (.slice none 0 0) (.int .i64 0)
  below : Below W0.heap.size W0 W
theorem RPre.keep {w W0 W W2 : World} {s0 s1 : Value} (h : RPre w s0 s1 W0 W) (hb : Below W.heap.size W W2) : RPre w s0 s1 W0 W2 :=
  ⟨h.z, h.b0, h.arg.keep hb, h.res.keep hb, bthen h.below hb⟩
theorem RPre.b {w W0 W : World} {s0 s1 : Value} (h : RPre w s0 s1 W0 W) : Below w.heap.size w W := bthen h.b0 h.below
theorem RPre.low {w W0 W : World} {s0 s1 : Value} (h : RPre w s0 s1 W0 W) (u0 u1 : Value) : Below w.heap.size w ((W.setCell ⟨w.heap.size + 1, 0, none⟩ u0).setCell ⟨w.heap.size + 1, 1, none⟩ u1) :=
  (h.b.setCell (p := ⟨w.heap.size + 1, 0, none⟩) (Nat.le_succ _) _).setCell (p := ⟨w.heap.size + 1, 1, none⟩) (Nat.le_succ _) _
theorem rpre_start (w : World) (s0 s1 : Value) (t1 t2 : TypeId) : RPre w s0 s1 (w.alloc (.cells #[s0, s1] t1)) ((w.alloc (.cells #[s0, s1] t1)).alloc (.cells #[.slice none 0 0, .int .i64 0] t2)) := by
  have hal : Below (w.alloc (.cells #[s0, s1] t1)).heap.size (w.alloc (.cells #[s0, s1] t1)) ((w.alloc (.cells #[s0, s1] t1)).alloc (.cells #[.slice none 0 0, .int .i64 0] t2)) := (Below.refl _ _).alloc (Nat.le_refl _) _
  have hz : (w.alloc (.cells #[s0, s1] t1)).heap.size = w.heap.size + 1 := by simp
  have hR := BoxW.new (w.alloc (.cells #[s0, s1] t1)) (.slice none 0 0) (.int .i64 0) t2
  rw [hz] at hR
  exact ⟨hz, (Below.refl _ _).alloc (Nat.le_refl _) _, (BoxW.new w s0 s1 t1).keep hal, hR, hal⟩
theorem estate_first {w W0 W : World} {s0 s1 : Value} (h : RPre w s0 s1 W0 W) (cls : Int) (t : TypeId) : EState W0 (fun _ => False) (w.heap.size + 1) W.heap.size (W.alloc (.cells #[.slice none 0 0, .int .i64 cls] t)) none 0 0 [] cls := by
  have hal : Below W.heap.size W (W.alloc (.cells #[.slice none 0 0, .int .i64 cls] t)) := (Below.refl _ _).alloc (Nat.le_refl _) _
  have h1 := h.res.lt
  have h2 := h.z
  have h3 := h.below.size
  exact ⟨⟨by omega, h3, by omega⟩, fun j hj => hj.elim, h.res.keep hal, BoxW.new _ _ _ _, World.ownsRow_nil _ _ _ _, (fun j hj => by cases hj), fun j hj => hj.elim, Only.of_below (bthen h.below hal)⟩
theorem estate_draw {w W0 W : World} {s0 s1 : Value} (h : RPre w s0 s1 W0 W) {b : Nat} (hC : Cur W0 b) (hb : b < W0.heap.size) (t : TypeId) : EState W0 (· = b) (w.heap.size + 1) W.heap.size (W.alloc (.cells #[.slice none 0 0, .int .i64 0] t)) none 0 0 [] 0 := by
  have hE := estate_first h 0 t
  have hal : Below W.heap.size W (W.alloc (.cells #[.slice none 0 0, .int .i64 0] t)) := (Below.refl _ _).alloc (Nat.le_refl _) _
  have hB := bthen h.below hal
  exact ⟨hE.ord, fun j hj => by subst hj; exact hb, hE.res, hE.box, hE.own, hE.ap, fun j hj => by subst hj; exact hC.keep hB, Only.of_below hB⟩
end Go.Proofs.YtohodehmidbmlaaDoor
namespace Go.Proofs.YtohodehmidbmlaaDoor
open Go.RowKit
set_option maxRecDepth 100000

/-- Bytes as a text. -/
theorem conv_bytes {w : World} {A : Option Addr} {n : Nat} (c : Nat) {l : List UInt8} (h : Bytes w A n l) : (convert 26 9 (.slice A n c)).run Tryd.prog w = .ok (.string ⟨l.toArray⟩) w := by
  have hn := h.1
  rcases A with _ | a
  · have hn0 : n = 0 := by
      rcases Nat.eq_zero_or_pos n with e | e
      · exact e
      · obtain ⟨ad, e1, -⟩ := h.at_ e
        cases e1
    have hl : l = [] := List.eq_nil_of_length_eq_zero (by omega)
    subst hl
    exact run_convert_bytes_nil w 26 5 Tryd.underlying26 Tryd.underlying5 n c 9 Tryd.underlying9
  · have := run_convert_bytes_back (P := Tryd.prog) w 26 9 5 a c l Tryd.underlying26 Tryd.underlying5 Tryd.underlying9 (fun j hj => by
      obtain ⟨ad', e, _, hc'⟩ := h.at_ (k := j) (by omega)
      injection e with e
      subst e
      rw [hc', List.getElem?_eq_getElem hj, Option.getD_some])
    rw [hn]
    exact this
/-- How a reading of a row ends. -/
def RowPost (d : SchemaD) (row : ByteArray) (w : World) (e : Ending) (w' : World) : Prop := ∃ x0 x1, e = .returned (.tuple #[.agg #[x0, x1], .int .i64 (rowOf d row).2.1, .int .i64 (rowOf d row).2.2]) ∧
  ExO w.heap.size w'.heap.size w' x0 x1 (rowOf d row).1 ∧ Below w.heap.size w w'
theorem rowPost_none {d : SchemaD} {row : ByteArray} {w w' : World} {a b : Int} (h : rowOf d row = (exNone, a, b)) (hb : Below w.heap.size w w') :
    RowPost d row w (.returned (.tuple #[.agg #[.slice none 0 0, .int .i64 0], .int .i64 a, .int .i64 b])) w' :=
  ⟨_, _, by rw [h], by rw [h]; exact ⟨none, 0, 0, rfl, rfl, World.ownsRow_nil _ _ _ _, by omega, fun k hk => (by cases hk), by show (Lit.int .i64 0).wf = true; decide⟩, hb⟩
theorem rowPost_some {d : SchemaD} {row : ByteArray} {w w' : World} {G : Option Addr} {n k B : Nat} {l : List Int} {cls : Int} (h : rowOf d row = (⟨l, cls⟩, 0, 0)) (ho : w'.ownsRow B 3 1 (.slice G n k) n (l.map (Value.int .i64))) (hB : w.heap.size ≤ B)
    (hn : n ≤ 1048576) (hc : -1 ≤ cls ∧ cls ≤ 1048576) (hb : Below w.heap.size w w') : RowPost d row w (.returned (.tuple #[.agg #[.slice G n k, .int .i64 cls], .int .i64 0, .int .i64 0])) w' := by
  refine ⟨_, _, by rw [h], ?_, hb⟩
  rw [h]
  refine ⟨G, n, k, rfl, rfl, ((Bag.one (s := intRow G n k l) ho).mono hB).own 0 (by omega), hn, fun j hj => (ho.lt j hj).2, ?_⟩
  simp [Lit.wf, IntKind.min, IntKind.max, IntKind.signed, IntKind.bits]
  omega
theorem rowOk_at {d : SchemaD} {cells : List ByteArray} {i : Nat} : rowOkAt d cells i = (cellP (d.attrs[i]?.getD default) (cells[i]?.getD ByteArray.empty)).2 := rfl
theorem rowOk_snoc {d : SchemaD} {cells : List ByteArray} {k : Nat} (h : (List.range k).all (rowOkAt d cells) = true) (hb : rowOkAt d cells k = true) : (List.range (k + 1)).all (rowOkAt d cells) = true := by
  rw [List.range_succ, List.all_append, h]
  simp [hb]
theorem only_false {w W : World} (h : Only (fun _ => False) w W) : Below w.heap.size w W := Only.below (Below.refl _ _) (Nat.le_refl _) h fun _ hk => hk.elim

/-- A cell that was read. -/
def CellB (a : AttrD) (s : ByteArray) (ok : Bool) (w : World) (e : Ending) (w' : World) : Prop := ∃ x : Int, e = .returned (.tuple #[.int .i64 x, .bool ok]) ∧ (ok = true → x = (cellP a s).1) ∧ Below w.heap.size w w'
theorem l7Cell_read {A1 : Option Addr} {n1 c1 : Nat} {A2 : Option Addr} {n2 c2 : Nat} {a : AttrD} {s : ByteArray} {ok : Bool} (w : World) (h : AttrM w A1 n1 c1 A2 n2 c2 a) (hs : s.size ≤ 1048576) (ho : (cellP a s).2 = ok) :
    Calls Tryd.prog 83 #[.agg #[.string a.name, .slice A1 n1 c1, .slice A2 n2 c2], .string s] w (CellB a s ok w) := by
  have := l7Cell_any A1 n1 c1 A2 n2 c2 a s w h hs
  unfold CellPost at this
  rw [ho] at this
  exact this
theorem cellBin_read {A1 : Option Addr} {n1 c1 : Nat} {A2 : Option Addr} {n2 c2 : Nat} {a : AttrD} {s : ByteArray} {ok : Bool} (w : World) (h : AttrM w A1 n1 c1 A2 n2 c2 a) (hs : s.size ≤ 1048576) (hok : attrB a = true) (hd : DoorW w) (ho : (cellP a s).2 = ok) :
    Calls Tryd.prog 88 #[.agg #[.string a.name, .slice A1 n1 c1, .slice A2 n2 c2], .string s] w (CellB a s ok w) := by
  have := cellBin_any A1 n1 c1 A2 n2 c2 a s w h hs hok hd
  unfold CellPost at this
  rw [ho] at this
  exact this

set_option maxHeartbeats 8000000 in
theorem specRowOf_any (x0 x1 : Value) (d : SchemaD) (Q : Option Addr) (pn pc : Nat) (pl : List UInt8) (w : World) (h : SchemaM w x0 x1 d) (hp : Bytes w Q pn pl) (hpn : pn ≤ 1048576) :
    Calls Tryd.prog 20 #[.agg #[x0, x1], .slice Q pn pc] w (RowPost d ⟨pl.toArray⟩ w) := by
  have HSM := hide h
  obtain ⟨A, n, c, D, m, k, rfl, rfl, hl, hn, hr, hs, hm, hmk⟩ := h
  have hP1 := rpre_start w (.slice A n c) (.slice D m k) 35 30
  obtain ⟨W0, hW0⟩ : ∃ W, W = w.alloc (.cells #[.slice A n c, .slice D m k] 35) := ⟨_, rfl⟩
  rw [← hW0] at hP1
  obtain ⟨W1, hW1⟩ : ∃ W, W = W0.alloc (.cells #[.slice none 0 0, .int .i64 0] 30) := ⟨_, rfl⟩
  rw [← hW1] at hP1
  have HW := hide (show W1 = (w.alloc (.cells #[.slice A n c, .slice D m k] 35)).alloc (.cells #[.slice none 0 0, .int .i64 0] 30) by rw [hW1, hW0])
  obtain ⟨row, hrow⟩ : ∃ row : ByteArray, row = ⟨pl.toArray⟩ := ⟨_, rfl⟩
  have hrz : row.size = pn := by rw [hrow, hp.1]; rfl
  rw [← hrow]
  have HROW := hide hrow
  have HQ := hide hp
  have HL := hide hl
  have HR := hide hr
  have HNA := hide hl.1
  have HNC := hide hr.1
  have HP := hide hP1
  clear hp hl hr hs hP1 hW0 hW1 hrow
  go_enter Tryd.func20, Tryd.ntmps20
  obtain ⟨x0, x1, f0, f1, xl⟩ := HP.out.arg
  rw [HW.out] at x0 x1 f0 f1 xl
  go_wp2_with (fail)
  rw [← HW.out]
  refine (specSchemaOk_any _ _ d _ (HSM.out.keep HP.out.b)).mono ?_
  rintro e w2 ⟨rfl, hb⟩
  replace HP := hide (HP.out.keep hb)
  clear hb x0 x1 f0 f1 xl HW
  cases hsb : schemaB d
  · have HF := hide (rowOf_schema (row := row) hsb)
    clear hsb
    obtain ⟨r0, r1, h0, h1, rl⟩ := HP.out.res
    obtain ⟨x0, x1, f0, f1, xl⟩ := HP.out.arg
    have hlow := hide (HP.out.low (.slice none 0 0) (.int .i64 0))
    go_wp2
    exact bodyPost_ret (v := .tuple #[.agg #[.slice none 0 0, .int .i64 0], .int .i64 1, .int .i64 0]) (by simp [results, Tryd.results20, go_sem, r0, r1]) rfl (rowPost_none HF.out hlow.out)
  have HSB := hide hsb
  by_cases h80 : 80 < pn
  · have HF := hide (rowOf_long (row := row) hsb (by omega))
    have h80' : (80 : Int) < pn := by omega
    clear hsb
    obtain ⟨r0, r1, h0, h1, rl⟩ := HP.out.res
    obtain ⟨x0, x1, f0, f1, xl⟩ := HP.out.arg
    have hlow := hide (HP.out.low (.slice none 0 0) (.int .i64 0))
    go_wp2
    exact bodyPost_ret (v := .tuple #[.agg #[.slice none 0 0, .int .i64 0], .int .i64 2, .int .i64 0]) (by simp [results, Tryd.results20, go_sem, r0, r1]) rfl (rowPost_none HF.out hlow.out)
  have h80' : ¬ (80 : Int) < pn := by omega
  clear hsb
  have hconv := conv_bytes pc (HQ.out.keep HP.out.b)
  rw [← HROW.out] at hconv
  obtain ⟨x0, x1, f0, f1, xl⟩ := HP.out.arg
  go_wp2_with (fail)
  refine (specParts_any row 124 _ (by omega)).mono ?_
  rintro e w2a ⟨D2, n2, m2, rfl, ho2, hn2, hb⟩
  replace HP := hide (HP.out.keep hb)
  have HO2 := hide ho2
  have HN2 := hide hn2
  have HBZ := hide hb.size
  clear hb x0 x1 f0 f1 xl hconv ho2 hn2
  by_cases h2 : (parts row 124).length = 2
  rotate_left
  · have HF := hide (rowOf_bar HSB.out (by omega) h2)
    have hne : ((n2 : Int) == 2) = false := beq_eq_false_iff_ne.2 (by rw [HN2.out]; omega)
    have hne2 : ((n2 : Int) != 2) = true := by rw [bne_iff_ne]; rw [HN2.out]; omega
    obtain ⟨r0, r1, h0, h1, rl⟩ := HP.out.res
    obtain ⟨x0, x1, f0, f1, xl⟩ := HP.out.arg
    have hlow := hide (HP.out.low (.slice none 0 0) (.int .i64 0))
    go_wp2
    exact bodyPost_ret (v := .tuple #[.agg #[.slice none 0 0, .int .i64 0], .int .i64 3, .int .i64 0]) (by simp [results, Tryd.results20, go_sem, r0, r1]) rfl (rowPost_none HF.out hlow.out)
  obtain ⟨x, y, hp, hse, -, -⟩ := parts_pair (s := row) (b := 124) h2
  have hp' : parts row 124 = [x, y] := hp
  have hszz : x.size + 1 + y.size = row.size := by rw [hse, three_size]
  have hn2 : n2 = 2 := by rw [HN2.out, h2]
  subst hn2
  have hown := HO2.out
  unfold OwnS at hown
  rw [hp'] at hown
  have hown2 : w2a.ownsRow w2.heap.size 9 1 (.slice D2 2 m2) 2 [.string x, .string y] := hown
  obtain ⟨g, rfl, hg1, hg2⟩ := own_form hown2 (by omega)
  have hc0 : w2a.cell? ⟨g, 0, none⟩ = some (.string x) := hown2.cellAt 0 (by omega)
  have hc1 : w2a.cell? ⟨g, 1, none⟩ = some (.string y) := hown2.cellAt 1 (by omega)
  have hcy := hide (show ∀ W : World, Below w2a.heap.size w2a W → g < W.heap.size ∧ W.cell? ⟨g, 1, none⟩ = some (.string y) from fun W hb => ⟨Nat.lt_of_lt_of_le hg2 hb.size, (hb.cell (p := ⟨g, 1, none⟩) hg2).trans hc1⟩)
  have HK4 := hide (show ¬ (parts x 44).length = d.attrs.length → rowOf d row = (exNone, 4, 0) from fun h => rowOf_count HSB.out (by omega) h2 (by rw [hp']; exact h))
  have HK5 := hide (show (parts x 44).length = d.attrs.length → rowOf d row = rowCells d (parts x 44) y from fun h => by rw [rowOf_cells HSB.out (by omega) h2 (by rw [hp']; exact h), hp']; rfl)
  clear hp hse hp' hown hown2 h2 HO2 HN2
  obtain ⟨x0, x1, f0, f1, xl⟩ := HP.out.arg
  go_wp2_with (fail)
  refine (specParts_any x 44 _ (by omega)).mono ?_
  rintro e w3 ⟨D3, n3, m3, rfl, ho3, hn3, hb⟩
  replace HP := hide (HP.out.keep hb)
  have HB3 := hide hb
  obtain ⟨L, hL⟩ : ∃ L, L = parts x 44 := ⟨_, rfl⟩
  have hpl := parts_len x 44
  have hsz := hide (show ∀ p ∈ L, p.size ≤ 1048576 from fun p hp => by
    rw [hL] at hp
    have := part_le x 44 p hp
    omega)
  rw [← hL] at ho3 hn3 HK4 HK5 hpl
  clear hL hb x0 x1 f0 f1 xl hc0 hc1 hg1
  by_cases h4 : L.length = d.attrs.length
  rotate_left
  · have HF := hide (HK4.out h4)
    have hne : ((n3 : Int) == n) = false := beq_eq_false_iff_ne.2 (by rw [hn3, HNA.out]; omega)
    have hne2 : ((n3 : Int) != n) = true := by rw [bne_iff_ne]; rw [hn3, HNA.out]; omega
    obtain ⟨r0, r1, h0, h1, rl⟩ := HP.out.res
    obtain ⟨x0, x1, f0, f1, xl⟩ := HP.out.arg
    have hlow := hide (HP.out.low (.slice none 0 0) (.int .i64 0))
    go_wp2
    exact bodyPost_ret (v := .tuple #[.agg #[.slice none 0 0, .int .i64 0], .int .i64 4, .int .i64 0]) (by simp [results, Tryd.results20, go_sem, r0, r1]) rfl (rowPost_none HF.out hlow.out)
  have hnn : n3 = n := by rw [hn3, HNA.out, h4]
  subst hnn
  have HK := hide (HK5.out h4)
  have HNL := hide hn3
  unfold OwnS at ho3
  rw [← hn3] at ho3
  have HLS := hide (strs_of ho3)
  have hn5 : n3 ≤ 5 := by have := (schemaB_parts HSB.out).1.2; omega
  have hm3 : m ≤ 3 := by have := (schemaB_parts HSB.out).2.1.2; have := HNC.out; omega
  have HE := hide (estate_first HP.out 0 30)
  have HP4 := hide (HP.out.keep ((Below.refl _ _).alloc (Nat.le_refl _) (.cells #[.slice none 0 0, .int .i64 0] 30)))
  obtain ⟨x0, x1, f0, f1, xl⟩ := HP.out.arg
  obtain ⟨x0', x1', f0', f1', xl'⟩ := HP4.out.arg
  clear hn3 ho3 HK4 HK5 h4
  go_wp2
  clear x0 x1 f0 f1 xl x0' x1' f0' f1' xl' HP4
  go_loopw [10] (fun i W => ∃ K : Nat, K ≤ n3 ∧ i = .int .i64 K ∧ (∃ G c9, EState W0 (fun _ => False) (w.heap.size + 1) w3.heap.size W G K c9 (rowBins d L K) 0 ∧ Hid (∀ j, Value.ownBlock (.slice G K c9) = some j → w3.heap.size ≤ j)) ∧ Hid ((List.range K).all (rowOkAt d L) = true) ∧ Hid (Only (fun j => w3.heap.size ≤ j) w3 W)) (fun i _ => n3 - (intOf i).toNat)
  case atStart => exact ⟨0, Nat.zero_le _, rfl, ⟨none, 0, HE.out, fun j e => by cases e⟩, rfl, Only.of_below ((Below.refl _ _).alloc (Nat.le_refl _) _)⟩
  case round =>
    clear HE
    obtain ⟨K, hk, rfl, ⟨G, c9, hS, hown⟩, hok, hon⟩ := hrel
    have HS := hide hS
    clear hS
    have hb3 := hide (show Below w3.heap.size w3 wr from Only.below (Below.refl _ _) (Nat.le_refl _) hon.out fun k hk => hk)
    obtain ⟨x0, x1, f0, f1, xl⟩ := HP.out.arg.keep hb3.out
    by_cases hlt : K < n3
    · obtain ⟨ad, rfl, hadb, hcell⟩ := (HLS.out.keep hb3.out).at_ hlt
      obtain ⟨au, A1, n1, c1, A2, n2, c2, rfl, hbk, g0, g1, g2, hI⟩ := (HL.out.keep (bthen HP.out.b hb3.out)).at_ hlt
      have hkl := hide (show K < L.length by have := HNL.out; omega)
      have hz := hsz.out (L[K]?.getD ByteArray.empty) (by rw [List.getElem?_eq_getElem hkl.out, Option.getD_some]; exact List.getElem_mem hkl.out)
      obtain ⟨p, hp⟩ : ∃ p, p = L[K]?.getD ByteArray.empty := ⟨_, rfl⟩
      obtain ⟨a, ha⟩ : ∃ a, a = d.attrs[K]?.getD default := ⟨_, rfl⟩
      rw [← hp] at hcell hz
      rw [← ha] at g0 hI
      have hro := rowOk_at (d := d) (cells := L) (i := K)
      have hst := rowBins_snoc d L K
      rw [← hp, ← ha] at hro hst
      have HI := hide hI
      obtain ⟨ok, ho⟩ : ∃ ok, (cellP a p).2 = ok := ⟨_, rfl⟩
      rw [ho] at hro
      have HO := hide ho
      have HRO := hide hro
      have HST := hide hst
      clear ho hro hst hI ha hp
      have HSD := hide (HS.out.keep ((Below.refl _ _).drew))
      have HID := hide (HI.out.keep ((Below.refl _ _).drew))
      have hi0 : (0 : Int) ≤ K := by omega
      have hi1 : (K : Int) < n3 := by omega
      go_wp2
      go_region_law (first
        | (go_simp; go_at_call 83; refine (l7Cell_read _ HID.out hz HO.out).mono ?_; rintro e w5 ⟨u, rfl, hu, hb⟩))
      all_goals
        have HS6 := hide (HSD.out.keep hb)
        replace hon := hide (hon.out.trans (Only.of_below (bthen ((Below.refl _ _).drew) hb)))
        clear hb x0 x1 f0 f1 xl HS g0 g1 g2 hbk hcell hadb HI HID HSD
        cases ok
        · have HF := hide (HK.out.trans (rowCells_bad hkl.out hok.out HRO.out))
          clear hu
          obtain ⟨r0, r1, h0, h1, rl⟩ := HS6.out.res
          obtain ⟨e0, e1, k0, k1, el⟩ := HS6.out.box
          have hfin := hide (HS6.out.fin (.slice none 0 0) (.int .i64 0))
          go_wp2
          exact bodyPost_ret (v := .tuple #[.agg #[.slice none 0 0, .int .i64 0], .int .i64 5, .int .i64 K]) (by simp [results, Tryd.results20, go_sem, r0, r1]) rfl (rowPost_none HF.out (bthen HP.out.b0 (only_false hfin.out.2.2)))
        · have hok2 := hide (rowOk_snoc hok.out HRO.out)
          have hval := hide (show rowBins d L K ++ [u] = rowBins d L (K + 1) by rw [HST.out, hu rfl])
          have HSZ := hide (show W0.heap.size ≤ w5.heap.size from HS6.out.only.size)
          clear hu
          obtain ⟨e0, e1, k0, k1, el⟩ := HS6.out.box
          go_wp2_with (at_builtin; go_must (refine wpList_append_one w5 rfl _ _ 28 rfl W0.heap.size 3 (.int .i64 0) 1 8 Tryd.underlying28 infoI rfl (by decide) _ K _ [.int .i64 u] rfl HS6.out.own _ rfl rfl (by simp [Value.oneCell']) rfl (by unfold maxLen; omega) (by omega) HSZ.out ?_); intro v' w9 hown9 hb9 hn9 hg9; obtain ⟨D9, m9, rfl⟩ := own_shape hown9; obtain ⟨y0, y1, q0, q1, yl⟩ := (HS6.out.turn hb9 hg9).2.1)
          have HS9 := hide (HS6.out.item (G' := D9) (k' := m9) hown9 hb9 hg9 hn9)
          rw [hval.out] at HS9
          have hbk := hide (show ∀ j, Value.ownBlock (.slice D9 (K + 1) m9) = some j → w3.heap.size ≤ j from fun j hj => by
            rcases hn9 j hj with q | q
            · exact hown.out j q
            · have := hon.out.size; omega)
          have hon2 := hide ((hon.out.trans (Only.of_grown hg9 fun k hk => hown.out k hk)).setCell (p := ⟨w3.heap.size, 0, none⟩) (Nat.le_refl _) (.slice D9 (K + 1) m9))
          clear hown9 hb9 hg9 hn9 e0 e1 k0 k1 el y0 y1 q0 q1 yl HS6
          go_wp2
          exact ⟨⟨K + 1, by omega, by go_num, ⟨D9, m9, HS9.out, hbk⟩, hok2, hon2⟩, by simp [intOf]; omega⟩
    · obtain rfl : K = n3 := by omega
      have hall := hok.out
      rw [HNL.out] at hall
      obtain ⟨cx, hcx⟩ : ∃ cx, cx = clsP d y := ⟨_, rfl⟩
      have hcb := idxI_bd (fun z => decide (y = z)) d.classes
      have hcx' : cx = idxI (fun z => decide (y = z)) d.classes := hcx
      rw [← hcx', ← HNC.out] at hcb
      have HK6 := hide (show cx < 0 → ¬ y = quest → rowOf d row = (exNone, 6, 0) from fun h1 h2 => HK.out.trans (rowCells_cls hall (by rw [← hcx]; exact h1) h2))
      have HK0 := hide (show ¬ (cx < 0 ∧ ¬ y = quest) → rowOf d row = (⟨rowBins d L K, cx⟩, 0, 0) from fun h1 => HK.out.trans (by rw [rowCells_ok hall (by rw [← hcx]; exact h1), ← HNL.out, ← hcx]))
      have HCX := hide hcx'
      have HCQ := hide (show y = quest → cx = -1 from fun e => by rw [hcx, e]; exact clsP_q HSB.out)
      clear hcx hcx' hall
      obtain ⟨hyl, hyc⟩ := hcy.out wr (bthen HB3.out hb3.out)
      obtain ⟨e0, e1, k0, k1, el⟩ := HS.out.box
      have HRr := hide (HR.out.keep (bthen HP.out.b hb3.out))
      have hi1 : (1 : Int) < 2 := by omega
      have HRD := hide (HRr.out.keep ((Below.refl _ _).drew))
      go_wp2
      go_region_law (first
        | (go_simp; go_at_call 84; refine (l7Place_any D m k d.classes y _ HRD.out (by omega)).mono ?_; rintro e w5 ⟨rfl, rfl⟩; rw [← HCX.out]))
      all_goals
        have HS9 := hide (HS.out.setCls cx)
        have hyc2 : (wr.setCell ⟨w3.heap.size, 1, none⟩ (.int .i64 cx)).cell? ⟨g, 1, none⟩ = some (.string y) := (hcy.out _ ((bthen HB3.out hb3.out).setCell (p := ⟨w3.heap.size, 1, none⟩) HB3.out.size _)).2
        clear e0 e1 k0 k1 el
        by_cases hneg : cx < 0
        · by_cases hq : y = quest
          · have HF := hide (HK0.out (fun h => h.2 hq))
            have hb : (y.toList == [63]) = true := q_yes hq
            clear hq
            obtain ⟨r0, r1, h0, h1, rl⟩ := HS9.out.res
            obtain ⟨e0, e1, k0, k1, el⟩ := HS9.out.box
            have hfin := hide (HS9.out.fin (.slice G K c9) (.int .i64 cx))
            go_wp2
            exact bodyPost_ret (v := .tuple #[.agg #[.slice G K c9, .int .i64 cx], .int .i64 0, .int .i64 0]) (by simp [results, Tryd.results20, go_sem, r0, r1]) rfl (rowPost_some HF.out (own_below hfin.out.1 (Below.refl _ _).drew) (by have := HP.out.z; omega) (by omega) (by omega) (bthen HP.out.b0 (only_false hfin.out.2.2.drew)))
          · have HF := hide (HK6.out hneg hq)
            have hb : (y.toList == [63]) = false := q_no hq
            clear hq
            obtain ⟨r0, r1, h0, h1, rl⟩ := HS9.out.res
            obtain ⟨e0, e1, k0, k1, el⟩ := HS9.out.box
            have hfin := hide (HS9.out.fin (.slice none 0 0) (.int .i64 0))
            go_wp2
            exact bodyPost_ret (v := .tuple #[.agg #[.slice none 0 0, .int .i64 0], .int .i64 6, .int .i64 0]) (by simp [results, Tryd.results20, go_sem, r0, r1]) rfl (rowPost_none HF.out (bthen HP.out.b0 (only_false hfin.out.2.2.drew)))
        · have HF := hide (HK0.out (fun h => hneg h.1))
          obtain ⟨r0, r1, h0, h1, rl⟩ := HS9.out.res
          obtain ⟨e0, e1, k0, k1, el⟩ := HS9.out.box
          have hfin := hide (HS9.out.fin (.slice G K c9) (.int .i64 cx))
          go_wp2
          exact bodyPost_ret (v := .tuple #[.agg #[.slice G K c9, .int .i64 cx], .int .i64 0, .int .i64 0]) (by simp [results, Tryd.results20, go_sem, r0, r1]) rfl (rowPost_some HF.out (own_below hfin.out.1 (Below.refl _ _).drew) (by have := HP.out.z; omega) (by omega) (by omega) (bthen HP.out.b0 (only_false hfin.out.2.2.drew)))
end Go.Proofs.YtohodehmidbmlaaDoor
namespace Go.Proofs.YtohodehmidbmlaaDoor
open Go.RowKit
set_option maxRecDepth 100000

set_option maxHeartbeats 8000000 in
theorem implRowOf_any (x0 x1 : Value) (d : SchemaD) (Q : Option Addr) (pn pc : Nat) (pl : List UInt8) (w : World) (h : SchemaM w x0 x1 d) (hp : Bytes w Q pn pl) (hpn : pn ≤ 1048576) (hd : DoorW w) :
    Calls Tryd.prog 23 #[.agg #[x0, x1], .slice Q pn pc] w (RowPost d ⟨pl.toArray⟩ w) := by
  have HD := hide hd
  clear hd
  have HSM := hide h
  obtain ⟨A, n, c, D, m, k, rfl, rfl, hl, hn, hr, hs, hm, hmk⟩ := h
  have hP1 := rpre_start w (.slice A n c) (.slice D m k) 35 30
  obtain ⟨W0, hW0⟩ : ∃ W, W = w.alloc (.cells #[.slice A n c, .slice D m k] 35) := ⟨_, rfl⟩
  rw [← hW0] at hP1
  obtain ⟨W1, hW1⟩ : ∃ W, W = W0.alloc (.cells #[.slice none 0 0, .int .i64 0] 30) := ⟨_, rfl⟩
  rw [← hW1] at hP1
  have HW := hide (show W1 = (w.alloc (.cells #[.slice A n c, .slice D m k] 35)).alloc (.cells #[.slice none 0 0, .int .i64 0] 30) by rw [hW1, hW0])
  obtain ⟨row, hrow⟩ : ∃ row : ByteArray, row = ⟨pl.toArray⟩ := ⟨_, rfl⟩
  have hrz : row.size = pn := by rw [hrow, hp.1]; rfl
  rw [← hrow]
  have HROW := hide hrow
  have HQ := hide hp
  have HL := hide hl
  have HR := hide hr
  have HNA := hide hl.1
  have HNC := hide hr.1
  have HP := hide hP1
  clear hp hl hr hs hP1 hW0 hW1 hrow
  go_enter Tryd.func23, Tryd.ntmps23
  obtain ⟨x0, x1, f0, f1, xl⟩ := HP.out.arg
  rw [HW.out] at x0 x1 f0 f1 xl
  go_wp2_with (fail)
  rw [← HW.out]
  refine (implSchemaOk_any _ _ d _ (HSM.out.keep HP.out.b)).mono ?_
  rintro e w2 ⟨rfl, hb⟩
  replace HP := hide (HP.out.keep hb)
  clear hb x0 x1 f0 f1 xl HW
  cases hsb : schemaB d
  · have HF := hide (rowOf_schema (row := row) hsb)
    clear hsb
    obtain ⟨r0, r1, h0, h1, rl⟩ := HP.out.res
    obtain ⟨x0, x1, f0, f1, xl⟩ := HP.out.arg
    have hlow := hide (HP.out.low (.slice none 0 0) (.int .i64 0))
    go_wp2
    exact bodyPost_ret (v := .tuple #[.agg #[.slice none 0 0, .int .i64 0], .int .i64 1, .int .i64 0]) (by simp [results, Tryd.results23, go_sem, r0, r1]) rfl (rowPost_none HF.out hlow.out)
  have HSB := hide hsb
  by_cases h80 : 80 < pn
  · have HF := hide (rowOf_long (row := row) hsb (by omega))
    have h80' : (80 : Int) < pn := by omega
    clear hsb
    obtain ⟨r0, r1, h0, h1, rl⟩ := HP.out.res
    obtain ⟨x0, x1, f0, f1, xl⟩ := HP.out.arg
    have hlow := hide (HP.out.low (.slice none 0 0) (.int .i64 0))
    go_wp2
    exact bodyPost_ret (v := .tuple #[.agg #[.slice none 0 0, .int .i64 0], .int .i64 2, .int .i64 0]) (by simp [results, Tryd.results23, go_sem, r0, r1]) rfl (rowPost_none HF.out hlow.out)
  have h80' : ¬ (80 : Int) < pn := by omega
  clear hsb
  have hconv := conv_bytes pc (HQ.out.keep HP.out.b)
  rw [← HROW.out] at hconv
  obtain ⟨x0, x1, f0, f1, xl⟩ := HP.out.arg
  go_wp2_with (fail)
  refine (implParts_any row 124 _ (by omega)).mono ?_
  rintro e w2a ⟨D2, n2, m2, rfl, ho2, hn2, hb⟩
  replace HP := hide (HP.out.keep hb)
  have HO2 := hide ho2
  have HN2 := hide hn2
  have HBZ := hide hb.size
  clear hb x0 x1 f0 f1 xl hconv ho2 hn2
  by_cases h2 : (parts row 124).length = 2
  rotate_left
  · have HF := hide (rowOf_bar HSB.out (by omega) h2)
    have hne : ((n2 : Int) == 2) = false := beq_eq_false_iff_ne.2 (by rw [HN2.out]; omega)
    have hne2 : ((n2 : Int) != 2) = true := by rw [bne_iff_ne]; rw [HN2.out]; omega
    obtain ⟨r0, r1, h0, h1, rl⟩ := HP.out.res
    obtain ⟨x0, x1, f0, f1, xl⟩ := HP.out.arg
    have hlow := hide (HP.out.low (.slice none 0 0) (.int .i64 0))
    go_wp2
    exact bodyPost_ret (v := .tuple #[.agg #[.slice none 0 0, .int .i64 0], .int .i64 3, .int .i64 0]) (by simp [results, Tryd.results23, go_sem, r0, r1]) rfl (rowPost_none HF.out hlow.out)
  obtain ⟨x, y, hp, hse, -, -⟩ := parts_pair (s := row) (b := 124) h2
  have hp' : parts row 124 = [x, y] := hp
  have hszz : x.size + 1 + y.size = row.size := by rw [hse, three_size]
  have hn2 : n2 = 2 := by rw [HN2.out, h2]
  subst hn2
  have hown := HO2.out
  unfold OwnS at hown
  rw [hp'] at hown
  have hown2 : w2a.ownsRow w2.heap.size 9 1 (.slice D2 2 m2) 2 [.string x, .string y] := hown
  obtain ⟨g, rfl, hg1, hg2⟩ := own_form hown2 (by omega)
  have hc0 : w2a.cell? ⟨g, 0, none⟩ = some (.string x) := hown2.cellAt 0 (by omega)
  have hc1 : w2a.cell? ⟨g, 1, none⟩ = some (.string y) := hown2.cellAt 1 (by omega)
  have hcy := hide (show ∀ W : World, Below w2a.heap.size w2a W → g < W.heap.size ∧ W.cell? ⟨g, 1, none⟩ = some (.string y) from fun W hb => ⟨Nat.lt_of_lt_of_le hg2 hb.size, (hb.cell (p := ⟨g, 1, none⟩) hg2).trans hc1⟩)
  have HK4 := hide (show ¬ (parts x 44).length = d.attrs.length → rowOf d row = (exNone, 4, 0) from fun h => rowOf_count HSB.out (by omega) h2 (by rw [hp']; exact h))
  have HK5 := hide (show (parts x 44).length = d.attrs.length → rowOf d row = rowCells d (parts x 44) y from fun h => by rw [rowOf_cells HSB.out (by omega) h2 (by rw [hp']; exact h), hp']; rfl)
  clear hp hse hp' hown hown2 h2 HO2 HN2
  obtain ⟨x0, x1, f0, f1, xl⟩ := HP.out.arg
  go_wp2_with (fail)
  refine (implParts_any x 44 _ (by omega)).mono ?_
  rintro e w3 ⟨D3, n3, m3, rfl, ho3, hn3, hb⟩
  replace HP := hide (HP.out.keep hb)
  have HB3 := hide hb
  obtain ⟨L, hL⟩ : ∃ L, L = parts x 44 := ⟨_, rfl⟩
  have hpl := parts_len x 44
  have hsz := hide (show ∀ p ∈ L, p.size ≤ 1048576 from fun p hp => by
    rw [hL] at hp
    have := part_le x 44 p hp
    omega)
  rw [← hL] at ho3 hn3 HK4 HK5 hpl
  clear hL hb x0 x1 f0 f1 xl hc0 hc1 hg1
  by_cases h4 : L.length = d.attrs.length
  rotate_left
  · have HF := hide (HK4.out h4)
    have hne : ((n3 : Int) == n) = false := beq_eq_false_iff_ne.2 (by rw [hn3, HNA.out]; omega)
    have hne2 : ((n3 : Int) != n) = true := by rw [bne_iff_ne]; rw [hn3, HNA.out]; omega
    obtain ⟨r0, r1, h0, h1, rl⟩ := HP.out.res
    obtain ⟨x0, x1, f0, f1, xl⟩ := HP.out.arg
    have hlow := hide (HP.out.low (.slice none 0 0) (.int .i64 0))
    go_wp2
    exact bodyPost_ret (v := .tuple #[.agg #[.slice none 0 0, .int .i64 0], .int .i64 4, .int .i64 0]) (by simp [results, Tryd.results23, go_sem, r0, r1]) rfl (rowPost_none HF.out hlow.out)
  have hnn : n3 = n := by rw [hn3, HNA.out, h4]
  subst hnn
  have HK := hide (HK5.out h4)
  have HNL := hide hn3
  unfold OwnS at ho3
  rw [← hn3] at ho3
  have HLS := hide (strs_of ho3)
  have hn5 : n3 ≤ 5 := by have := (schemaB_parts HSB.out).1.2; omega
  have hm3 : m ≤ 3 := by have := (schemaB_parts HSB.out).2.1.2; have := HNC.out; omega
  have HE := hide (estate_first HP.out (-1) 30)
  have HP4 := hide (HP.out.keep ((Below.refl _ _).alloc (Nat.le_refl _) (.cells #[.slice none 0 0, .int .i64 (-1)] 30)))
  obtain ⟨x0, x1, f0, f1, xl⟩ := HP.out.arg
  obtain ⟨x0', x1', f0', f1', xl'⟩ := HP4.out.arg
  clear hn3 ho3 HK4 HK5 h4
  go_wp2
  clear x0 x1 f0 f1 xl x0' x1' f0' f1' xl' HP4
  go_loopw [43] (fun i W => ∃ K : Nat, K ≤ n3 ∧ i = .int .i64 K ∧ (∃ G c9, EState W0 (fun _ => False) (w.heap.size + 1) w3.heap.size W G K c9 (rowBins d L K) (-1) ∧ Hid (∀ j, Value.ownBlock (.slice G K c9) = some j → w3.heap.size ≤ j)) ∧ Hid ((List.range K).all (rowOkAt d L) = true) ∧ Hid (Only (fun j => w3.heap.size ≤ j) w3 W)) (fun i _ => n3 - (intOf i).toNat)
  case atStart => exact ⟨0, Nat.zero_le _, rfl, ⟨none, 0, HE.out, fun j e => by cases e⟩, rfl, Only.of_below ((Below.refl _ _).alloc (Nat.le_refl _) _)⟩
  case round =>
    clear HE
    obtain ⟨K, hk, rfl, ⟨G, c9, hS, hown⟩, hok, hon⟩ := hrel
    have HS := hide hS
    clear hS
    have hb3 := hide (show Below w3.heap.size w3 wr from Only.below (Below.refl _ _) (Nat.le_refl _) hon.out fun k hk => hk)
    obtain ⟨x0, x1, f0, f1, xl⟩ := HP.out.arg.keep hb3.out
    by_cases hlt : K < n3
    · obtain ⟨ad, rfl, hadb, hcell⟩ := (HLS.out.keep hb3.out).at_ hlt
      obtain ⟨au, A1, n1, c1, A2, n2, c2, rfl, hbk, g0, g1, g2, hI⟩ := (HL.out.keep (bthen HP.out.b hb3.out)).at_ hlt
      have hkl := hide (show K < L.length by have := HNL.out; omega)
      have hz := hsz.out (L[K]?.getD ByteArray.empty) (by rw [List.getElem?_eq_getElem hkl.out, Option.getD_some]; exact List.getElem_mem hkl.out)
      obtain ⟨p, hp⟩ : ∃ p, p = L[K]?.getD ByteArray.empty := ⟨_, rfl⟩
      obtain ⟨a, ha⟩ : ∃ a, a = d.attrs[K]?.getD default := ⟨_, rfl⟩
      rw [← hp] at hcell hz
      rw [← ha] at g0 hI
      have hoka := hide (show attrB a = true by rw [ha]; exact attr_at HSB.out (by have := HNA.out; omega))
      have hro := rowOk_at (d := d) (cells := L) (i := K)
      have hst := rowBins_snoc d L K
      rw [← hp, ← ha] at hro hst
      have HI := hide hI
      obtain ⟨ok, ho⟩ : ∃ ok, (cellP a p).2 = ok := ⟨_, rfl⟩
      rw [ho] at hro
      have HO := hide ho
      have HRO := hide hro
      have HST := hide hst
      clear ho hro hst hI ha hp
      go_wp2_with (fail)
      refine (cellBin_read _ HI.out hz hoka.out (HD.out.keep (bthen HP.out.b hb3.out)) HO.out).mono ?_
      rintro e w5 ⟨u, rfl, hu, hb⟩
      have HS6 := hide (HS.out.keep hb)
      replace hon := hide (hon.out.trans (Only.of_below hb))
      clear hb x0 x1 f0 f1 xl HS g0 g1 g2 hbk hcell hadb HI
      cases ok
      · have HF := hide (HK.out.trans (rowCells_bad hkl.out hok.out HRO.out))
        clear hu
        obtain ⟨r0, r1, h0, h1, rl⟩ := HS6.out.res
        obtain ⟨e0, e1, k0, k1, el⟩ := HS6.out.box
        have hfin := hide (HS6.out.fin (.slice none 0 0) (.int .i64 0))
        go_wp2
        exact bodyPost_ret (v := .tuple #[.agg #[.slice none 0 0, .int .i64 0], .int .i64 5, .int .i64 K]) (by simp [results, Tryd.results23, go_sem, r0, r1]) rfl (rowPost_none HF.out (bthen HP.out.b0 (only_false hfin.out.2.2)))
      · have hok2 := hide (rowOk_snoc hok.out HRO.out)
        have hval := hide (show rowBins d L K ++ [u] = rowBins d L (K + 1) by rw [HST.out, hu rfl])
        have HSZ := hide (show W0.heap.size ≤ w5.heap.size from HS6.out.only.size)
        clear hu
        obtain ⟨e0, e1, k0, k1, el⟩ := HS6.out.box
        go_wp2_with (at_builtin; go_must (refine wpList_append_one w5 rfl _ _ 28 rfl W0.heap.size 3 (.int .i64 0) 1 8 Tryd.underlying28 infoI rfl (by decide) _ K _ [.int .i64 u] rfl HS6.out.own _ rfl rfl (by simp [Value.oneCell']) rfl (by unfold maxLen; omega) (by omega) HSZ.out ?_); intro v' w9 hown9 hb9 hn9 hg9; obtain ⟨D9, m9, rfl⟩ := own_shape hown9; obtain ⟨y0, y1, q0, q1, yl⟩ := (HS6.out.turn hb9 hg9).2.1)
        have HS9 := hide (HS6.out.item (G' := D9) (k' := m9) hown9 hb9 hg9 hn9)
        rw [hval.out] at HS9
        have hbk := hide (show ∀ j, Value.ownBlock (.slice D9 (K + 1) m9) = some j → w3.heap.size ≤ j from fun j hj => by
          rcases hn9 j hj with q | q
          · exact hown.out j q
          · have := hon.out.size; omega)
        have hon2 := hide ((hon.out.trans (Only.of_grown hg9 fun k hk => hown.out k hk)).setCell (p := ⟨w3.heap.size, 0, none⟩) (Nat.le_refl _) (.slice D9 (K + 1) m9))
        clear hown9 hb9 hg9 hn9 e0 e1 k0 k1 el y0 y1 q0 q1 yl HS6
        go_wp2
        go_roundw
        case rel => exact ⟨K + 1, by omega, by go_num, ⟨D9, m9, HS9.out, hbk⟩, hok2, hon2⟩
        case measure => simp [intOf]; omega
    · obtain rfl : K = n3 := by omega
      have hall := hok.out
      rw [HNL.out] at hall
      obtain ⟨cx, hcx⟩ : ∃ cx, cx = clsP d y := ⟨_, rfl⟩
      have hcb := idxI_bd (fun z => decide (y = z)) d.classes
      have hcx' : cx = idxI (fun z => decide (y = z)) d.classes := hcx
      rw [← hcx', ← HNC.out] at hcb
      have HK6 := hide (show cx < 0 → ¬ y = quest → rowOf d row = (exNone, 6, 0) from fun h1 h2 => HK.out.trans (rowCells_cls hall (by rw [← hcx]; exact h1) h2))
      have HK0 := hide (show ¬ (cx < 0 ∧ ¬ y = quest) → rowOf d row = (⟨rowBins d L K, cx⟩, 0, 0) from fun h1 => HK.out.trans (by rw [rowCells_ok hall (by rw [← hcx]; exact h1), ← HNL.out, ← hcx]))
      have HCX := hide hcx'
      have HCQ := hide (show y = quest → cx = -1 from fun e => by rw [hcx, e]; exact clsP_q HSB.out)
      clear hcx hcx' hall
      obtain ⟨hyl, hyc⟩ := hcy.out wr (bthen HB3.out hb3.out)
      obtain ⟨e0, e1, k0, k1, el⟩ := HS.out.box
      have HRr := hide (HR.out.keep (bthen HP.out.b hb3.out))
      by_cases hq : y = quest
      · have HF := hide (HK0.out (fun h => h.2 hq))
        have hcq := HCQ.out hq
        subst hcq
        have hb : (y.toList == [63]) = true := q_yes hq
        clear hq e0 e1 k0 k1 el
        obtain ⟨r0, r1, h0, h1, rl⟩ := HS.out.res
        obtain ⟨e0, e1, k0, k1, el⟩ := HS.out.box
        have hfin := hide (HS.out.fin (.slice G K c9) (.int .i64 (-1)))
        go_wp2
        exact bodyPost_ret (v := .tuple #[.agg #[.slice G K c9, .int .i64 (-1)], .int .i64 0, .int .i64 0]) (by simp [results, Tryd.results23, go_sem, r0, r1]) rfl (rowPost_some HF.out hfin.out.1 (by have := HP.out.z; omega) (by omega) (by omega) (bthen HP.out.b0 (only_false hfin.out.2.2)))
      · have HQ2 := hide hq
        have hb : (y.toList == [63]) = false := q_no hq
        clear hq
        have hi1 : (1 : Int) < 2 := by omega
        have HRD := hide (HRr.out.keep ((Below.refl _ _).drew))
        go_wp2
        go_region_law (first
          | (go_simp; go_at_call 89; refine (indexStr_any D m k d.classes y _ HRD.out (by omega)).mono ?_; rintro e w5 ⟨rfl, rfl⟩; rw [← HCX.out]))
        all_goals
          have HS9 := hide (HS.out.setCls cx)
          clear e0 e1 k0 k1 el
          by_cases hneg : cx < 0
          · have HF := hide (HK6.out hneg HQ2.out)
            obtain ⟨r0, r1, h0, h1, rl⟩ := HS9.out.res
            obtain ⟨e0, e1, k0, k1, el⟩ := HS9.out.box
            have hfin := hide (HS9.out.fin (.slice none 0 0) (.int .i64 0))
            go_wp2
            exact bodyPost_ret (v := .tuple #[.agg #[.slice none 0 0, .int .i64 0], .int .i64 6, .int .i64 0]) (by simp [results, Tryd.results23, go_sem, r0, r1]) rfl (rowPost_none HF.out (bthen HP.out.b0 (only_false hfin.out.2.2.drew)))
          · have HF := hide (HK0.out (fun h => hneg h.1))
            obtain ⟨r0, r1, h0, h1, rl⟩ := HS9.out.res
            obtain ⟨e0, e1, k0, k1, el⟩ := HS9.out.box
            have hfin := hide (HS9.out.fin (.slice G K c9) (.int .i64 cx))
            go_wp2
            exact bodyPost_ret (v := .tuple #[.agg #[.slice G K c9, .int .i64 cx], .int .i64 0, .int .i64 0]) (by simp [results, Tryd.results23, go_sem, r0, r1]) rfl (rowPost_some HF.out (own_below hfin.out.1 (Below.refl _ _).drew) (by have := HP.out.z; omega) (by omega) (by omega) (bthen HP.out.b0 (only_false hfin.out.2.2.drew)))
end Go.Proofs.YtohodehmidbmlaaDoor
namespace Go.Proofs.YtohodehmidbmlaaDoor
open Go.RowKit
set_option maxRecDepth 100000

theorem AttrD.ext_ {a b : AttrD} (h1 : a.name = b.name) (h2 : a.cuts = b.cuts) (h3 : a.vals = b.vals) : a = b := by
  cases a; cases b; simp_all
instance : DecidableEq AttrD := fun a b =>
  if h : a.name = b.name ∧ a.cuts = b.cuts ∧ a.vals = b.vals then isTrue (AttrD.ext_ h.1 h.2.1 h.2.2) else isFalse fun e => h (by subst e; exact ⟨rfl, rfl, rfl⟩)
theorem attr_ne_name {a b : AttrD} (h : ¬ a.name = b.name) : decide (a = b) = false := by
  rw [decide_eq_false_iff_not]; rintro rfl; exact h rfl
theorem attr_ne_cuts {a b : AttrD} (h : ¬ a.cuts = b.cuts) : decide (a = b) = false := by
  rw [decide_eq_false_iff_not]; rintro rfl; exact h rfl
theorem attr_eq_vals {a b : AttrD} (h1 : a.name = b.name) (h2 : a.cuts = b.cuts) : decide (a = b) = decide (a.vals = b.vals) := by
  rw [decide_eq_decide]; exact ⟨fun h => by rw [h], fun h => AttrD.ext_ h1 h2 h⟩
def schemaSameB (d e : SchemaD) : Bool := decide (d.classes = e.classes) && decide (d.attrs = e.attrs)
set_option maxHeartbeats 1000000 in
theorem schemaSame1_any (A1 : Option Addr) (n1 c1 : Nat) (A2 : Option Addr) (n2 c2 : Nat) (B1 : Option Addr) (m1 d1 : Nat) (B2 : Option Addr) (m2 d2 : Nat) (a b : AttrD) (w : World) (h : AttrM w A1 n1 c1 A2 n2 c2 a) (h' : AttrM w B1 m1 d1 B2 m2 d2 b) :
    Calls Tryd.prog 130 #[.agg #[.string a.name, .slice A1 n1 c1, .slice A2 n2 c2], .agg #[.string b.name, .slice B1 m1 d1, .slice B2 m2 d2]] w fun e w' => e = .returned (.bool (decide (a = b))) ∧ Below w.heap.size w w' := by
  have hbox : Below w.heap.size w ((w.alloc (.cells #[.string a.name, .slice A1 n1 c1, .slice A2 n2 c2] 64)).alloc (.cells #[.string b.name, .slice B1 m1 d1, .slice B2 m2 d2] 64)) := ((Below.refl _ _).alloc (Nat.le_refl _) _).alloc (by simp) _
  have HV := hide (h.keep hbox)
  have HW := hide (h'.keep hbox)
  have hn1 := h.b1
  have hn2 := h.b2
  have hm1 := h'.b1
  have hm2 := h'.b2
  clear h h'
  by_cases hn : a.name = b.name
  · have HE := str_beq hn
    cases hq : decide (a.cuts = b.cuts)
    · have HQ := hide hq
      have hfin := hide (attr_ne_cuts (a := a) (b := b) (of_decide_eq_false hq))
      clear hn hq
      go_enter Tryd.func130, Tryd.ntmps130
      go_wp2_with (fail)
      refine (equalInts_any _ _ _ _ _ _ a.cuts b.cuts _ HV.out.cuts HW.out.cuts (by omega) (by omega)).mono ?_
      rintro e w' ⟨rfl, q, rfl⟩
      rw [HQ.out]
      go_wp2
      go_ret
      exact ⟨ret_bool hfin.out.symm, below_drewN hbox _⟩
    · have HQ := hide hq
      have hfin := hide (attr_eq_vals hn (of_decide_eq_true hq))
      clear hn hq
      go_enter Tryd.func130, Tryd.ntmps130
      go_wp2_with (fail)
      refine (equalInts_any _ _ _ _ _ _ a.cuts b.cuts _ HV.out.cuts HW.out.cuts (by omega) (by omega)).mono ?_
      rintro e w' ⟨rfl, q, rfl⟩
      rw [HQ.out]
      go_wp2_with (fail)
      refine (equalStrs_any _ _ _ _ _ _ a.vals b.vals _ (HV.out.vals.keep (below_drewN (Below.refl _ _) _)) (HW.out.vals.keep (below_drewN (Below.refl _ _) _)) (by omega) (by omega)).mono ?_
      rintro e w' ⟨rfl, q', rfl⟩
      go_wp2
      go_ret
      exact ⟨ret_bool hfin.out.symm, below_drewN hbox _⟩
  · have HE := str_beq_no hn
    have hfin := hide (attr_ne_name hn)
    clear hn
    go_enter Tryd.func130, Tryd.ntmps130
    go_wp2
    go_ret
    exact ⟨ret_bool hfin.out.symm, hbox⟩

set_option maxHeartbeats 2000000 in
theorem eqFuncAttrs_any (A B : Option Addr) (n m c d : Nat) (l r : List AttrD) (w : World) (hl : AttrsM w A n l) (hr : AttrsM w B m r) (hn : n ≤ 2097152) (hm : m ≤ 2097152) :
    Calls Tryd.prog 129 #[.slice A n c, .slice B m d, .func (.func 130) #[] #[]] w fun e w' => e = .returned (.bool (decide (l = r))) ∧ Below w.heap.size w w' := by
  have hcf := Tryd.call130
  have HL := hide hl
  have HR := hide hr
  clear hl hr
  by_cases hnm : n = m
  · subst hnm
    go_enter Tryd.func129, Tryd.ntmps129
    go_wp2
    go_loopw [17] (fun i wr => ∃ k : Nat, k ≤ n ∧ i = .int .i64 k ∧ l.take k = r.take k ∧ Below w.heap.size w wr) (fun i _ => n - (intOf i).toNat)
    case atStart => exact ⟨0, Nat.zero_le _, rfl, by simp, Below.refl _ _⟩
    case round =>
      obtain ⟨k, hk, rfl, htk, hbel⟩ := hrel
      have HT := hide htk
      clear htk
      by_cases hlt : k < n
      · obtain ⟨a1, A1, n1, c1, A2, n2, c2, rfl, hb1, g0, g1, g2, hI1⟩ := (HL.out.keep hbel).at_ hlt
        obtain ⟨a2, B1, m1, d1, B2, m2, d2, rfl, hb2, j0, j1, j2, hI2⟩ := (HR.out.keep hbel).at_ hlt
        have P2 : (a2.add (k * 3)).block < wr.heap.size := by rw [block_of_add]; exact hb2
        have i0 : (wr.alloc (.cells #[.string (l[k]?.getD default).name, .slice A1 n1 c1, .slice A2 n2 c2] 64)).cell? (a2.add (k * 3)) = some (.string (r[k]?.getD default).name) := (World.cell?_alloc_lt _ _ _ P2).trans j0
        have i1 : (wr.alloc (.cells #[.string (l[k]?.getD default).name, .slice A1 n1 c1, .slice A2 n2 c2] 64)).cell? ⟨(a2.add (k * 3)).block, (a2.add (k * 3)).off + 1, none⟩ = some (.slice B1 m1 d1) := (World.cell?_alloc_lt _ _ ⟨(a2.add (k * 3)).block, (a2.add (k * 3)).off + 1, none⟩ P2).trans j1
        have i2 : (wr.alloc (.cells #[.string (l[k]?.getD default).name, .slice A1 n1 c1, .slice A2 n2 c2] 64)).cell? ⟨(a2.add (k * 3)).block, (a2.add (k * 3)).off + 2, none⟩ = some (.slice B2 m2 d2) := (World.cell?_alloc_lt _ _ ⟨(a2.add (k * 3)).block, (a2.add (k * 3)).off + 2, none⟩ P2).trans j2
        have hbox : Below wr.heap.size wr ((wr.alloc (.cells #[.string (l[k]?.getD default).name, .slice A1 n1 c1, .slice A2 n2 c2] 64)).alloc (.cells #[.string (r[k]?.getD default).name, .slice B1 m1 d1, .slice B2 m2 d2] 64)) := ((Below.refl _ _).alloc (Nat.le_refl _) _).alloc (by simp) _
        have H1 := hide (hI1.keep hbox)
        have H2 := hide (hI2.keep hbox)
        have hbel2 := bthen hbel hbox
        clear hI1 hI2 hb1 hb2 j0 j1 j2 hbox P2
        by_cases he : l[k]?.getD default = r[k]?.getD default
        · have HS := hide (take_eq_step default (by have := HL.out.1; omega) (by have := HR.out.1; omega) HT.out he)
          have HE := hide (show decide (l[k]?.getD default = r[k]?.getD default) = true by simpa using he)
          clear he
          go_wp2_with (fail)
          refine (schemaSame1_any _ _ _ _ _ _ _ _ _ _ _ _ (l[k]?.getD default) (r[k]?.getD default) _ H1.out H2.out).mono ?_
          rintro e w2 ⟨rfl, hb⟩
          rw [HE.out]
          have hbel3 := bthen hbel2 hb
          clear hb g0 g1 g2 i0 i1 i2 hbel2
          go_wp2
          go_roundw
          case rel => exact ⟨k + 1, by omega, by go_num, HS.out, hbel3⟩
          case measure => simp [intOf]; omega
        · have HS := hide (take_ne_step default he)
          have HE := hide (show decide (l[k]?.getD default = r[k]?.getD default) = false by simpa using he)
          clear he
          go_wp2_with (fail)
          refine (schemaSame1_any _ _ _ _ _ _ _ _ _ _ _ _ (l[k]?.getD default) (r[k]?.getD default) _ H1.out H2.out).mono ?_
          rintro e w2 ⟨rfl, hb⟩
          rw [HE.out]
          have hbel3 := bthen hbel2 hb
          clear hb g0 g1 g2 i0 i1 i2 hbel2
          go_wp2
          go_ret
          exact ⟨ret_bool (by simp [HS.out]), hbel3⟩
      · have HS := hide (show l = r by
          have h := HT.out
          rwa [List.take_of_length_le (by have := HL.out.1; omega), List.take_of_length_le (by have := HR.out.1; omega)] at h)
        go_wp2
        go_ret
        exact ⟨ret_bool (by simp [HS.out]), hbel⟩
  · have HS := hide (show ¬ l = r by
      rintro rfl
      exact hnm (by have := HL.out.1; have := HR.out.1; omega))
    have hne : ((n : Int) != (m : Int)) = true := by rw [bne_iff_ne]; omega
    clear hnm
    go_enter Tryd.func129, Tryd.ntmps129
    go_wp2
    go_ret
    exact ⟨ret_bool (by simp [HS.out]), Below.refl _ _⟩

set_option maxHeartbeats 1000000 in
theorem implSchemaSame_any (x0 x1 y0 y1 : Value) (d e : SchemaD) (w : World) (h : SchemaM w x0 x1 d) (h' : SchemaM w y0 y1 e) :
    Calls Tryd.prog 79 #[.agg #[x0, x1], .agg #[y0, y1]] w fun r w' => r = .returned (.bool (schemaSameB d e)) ∧ Below w.heap.size w w' := by
  obtain ⟨A, n, c, D, m, k, rfl, rfl, hl, hn, hr, -, hm, -⟩ := h
  obtain ⟨A', n', c', D', m', k', rfl, rfl, hl', hn', hr', -, hm', -⟩ := h'
  have hbox : Below w.heap.size w ((w.alloc (.cells #[.slice A n c, .slice D m k] 35)).alloc (.cells #[.slice A' n' c', .slice D' m' k'] 35)) := ((Below.refl _ _).alloc (Nat.le_refl _) _).alloc (by simp) _
  have HL := hide (hl.keep hbox)
  have HL' := hide (hl'.keep hbox)
  have HR := hide (hr.keep hbox)
  have HR' := hide (hr'.keep hbox)
  clear hl hr hl' hr'
  cases hq : decide (d.classes = e.classes)
  · have hfin := hide (show schemaSameB d e = false by rw [schemaSameB, hq]; rfl)
    have HQ := hide hq
    clear hq
    go_enter Tryd.func79, Tryd.ntmps79
    go_wp2_with (fail)
    refine (equalStrs_any D D' m m' k k' d.classes e.classes _ HR.out HR'.out (by omega) (by omega)).mono ?_
    rintro e w' ⟨rfl, q, rfl⟩
    rw [HQ.out]
    go_wp2
    go_ret
    exact ⟨ret_bool hfin.out.symm, below_drewN hbox _⟩
  · have hfin := hide (show schemaSameB d e = decide (d.attrs = e.attrs) by rw [schemaSameB, hq]; rfl)
    have HQ := hide hq
    clear hq
    go_enter Tryd.func79, Tryd.ntmps79
    go_wp2_with (fail)
    refine (equalStrs_any D D' m m' k k' d.classes e.classes _ HR.out HR'.out (by omega) (by omega)).mono ?_
    rintro e w' ⟨rfl, q, rfl⟩
    rw [HQ.out]
    go_wp2_with (fail)
    refine (eqFuncAttrs_any A A' n n' c c' _ _ _ (HL.out.keep (below_drewN (Below.refl _ _) _)) (HL'.out.keep (below_drewN (Below.refl _ _) _)) (by omega) (by omega)).mono ?_
    rintro e w2 ⟨rfl, hb⟩
    have hB := bthen (below_drewN hbox q) hb
    go_wp2
    go_ret
    exact ⟨ret_bool hfin.out.symm, hB⟩
end Go.Proofs.YtohodehmidbmlaaDoor
namespace Go.Proofs.YtohodehmidbmlaaDoor
open Go.RowKit
set_option maxRecDepth 100000

set_option maxHeartbeats 4000000 in
theorem specSchemaSame_any (x0 x1 y0 y1 : Value) (d e : SchemaD) (w : World) (h : SchemaM w x0 x1 d) (h' : SchemaM w y0 y1 e) :
    Calls Tryd.prog 78 #[.agg #[x0, x1], .agg #[y0, y1]] w fun r w' => r = .returned (.bool (schemaSameB d e)) ∧ Below w.heap.size w w' := by
  obtain ⟨A, n, c, D, m, k, rfl, rfl, hl, hn, hr, -, hm, -⟩ := h
  obtain ⟨A', n', c', D', m', k', rfl, rfl, hl', hn', hr', -, hm', -⟩ := h'
  have hbox : Below w.heap.size w ((w.alloc (.cells #[.slice A n c, .slice D m k] 35)).alloc (.cells #[.slice A' n' c', .slice D' m' k'] 35)) := ((Below.refl _ _).alloc (Nat.le_refl _) _).alloc (by simp) _
  obtain ⟨W, hW⟩ : ∃ W, W = ((w.alloc (.cells #[.slice A n c, .slice D m k] 35)).alloc (.cells #[.slice A' n' c', .slice D' m' k'] 35)) := ⟨_, rfl⟩
  have hX := (Box2.new w (.slice A n c) (.slice D m k) 35).keep (Below.alloc (Below.refl _ _) (Nat.le_refl _) (.cells #[.slice A' n' c', .slice D' m' k'] 35))
  have hY := Box2.new (w.alloc (.cells #[.slice A n c, .slice D m k] 35)) (.slice A' n' c') (.slice D' m' k') 35
  have hz : (w.alloc (.cells #[.slice A n c, .slice D m k] 35)).heap.size = w.heap.size + 1 := by simp
  rw [hz] at hY
  clear hz
  rw [← hW] at hX hY
  have HL := hide (hl.keep hbox)
  have HL' := hide (hl'.keep hbox)
  have HR := hide (hr.keep hbox)
  have HR' := hide (hr'.keep hbox)
  rw [← hW] at HL HL' HR HR' hbox
  have HW := hide hW
  clear hl hr hl' hr' hW
  by_cases hnn : n = n'
  · subst hnn
    cases hq : decide (d.classes = e.classes)
    · have hfin := hide (show schemaSameB d e = false by rw [schemaSameB, hq]; rfl)
      have HQ := hide hq
      clear hq
      go_enter Tryd.func78, Tryd.ntmps78
      go_wp2_with (fail)
      rw [← HW.out]
      refine (sameTexts_any D D' m m' k k' d.classes e.classes _ HR.out HR'.out (by omega) (by omega)).mono ?_
      rintro e w' ⟨rfl, q, rfl⟩
      rw [HQ.out]
      go_wp2
      go_ret
      exact ⟨ret_bool hfin.out.symm, below_drewN hbox _⟩
    · have HQ := hide hq
      have hfin := hide (show schemaSameB d e = decide (d.attrs = e.attrs) by rw [schemaSameB, hq]; rfl)
      clear hq
      obtain ⟨k0, k1, k2⟩ := hX
      obtain ⟨j0, j1, j2⟩ := hY
      go_enter Tryd.func78, Tryd.ntmps78
      go_wp2_with (fail)
      rw [← HW.out]
      refine (sameTexts_any D D' m m' k k' d.classes e.classes _ HR.out HR'.out (by omega) (by omega)).mono ?_
      rintro e w' ⟨rfl, q, rfl⟩
      rw [HQ.out]
      go_wp2
      go_loopw [5] (fun i wr => ∃ K : Nat, K ≤ n ∧ i = .int .i64 K ∧ d.attrs.take K = e.attrs.take K ∧ ∃ q, wr = W.drewN q) (fun i _ => n - (intOf i).toNat)
      case atStart => exact ⟨0, Nat.zero_le _, rfl, by simp, q, rfl⟩
      case round =>
        obtain ⟨K, hk, rfl, htk, q, rfl⟩ := hrel
        have HT := hide htk
        clear htk
        by_cases hlt : K < n
        · obtain ⟨a1, A1, n1, c1, A2, n2, c2, rfl, _, g0, g1, g2, hI1⟩ := (HL.out).at_ hlt
          obtain ⟨a2, B1, m1, d1, B2, m2, d2, rfl, _, f0, f1, f2, hI2⟩ := (HL'.out).at_ hlt
          have hn1 := hI1.b1
          have hn2 := hI1.b2
          have hm1 := hI2.b1
          have hm2 := hI2.b2
          have H1 := hide hI1
          have H2 := hide hI2
          clear hI1 hI2
          have hi0 : (0 : Int) ≤ K := by omega
          have hi1 : (K : Int) < n := by omega
          obtain ⟨a, ha⟩ : ∃ a, a = d.attrs[K]?.getD default := ⟨_, rfl⟩
          obtain ⟨b, hb⟩ : ∃ b, b = e.attrs[K]?.getD default := ⟨_, rfl⟩
          rw [← ha] at g0 H1
          rw [← hb] at f0 H2
          by_cases he : a = b
          · have HS := hide (take_eq_step default (by have := HL.out.1; omega) (by have := HL'.out.1; omega) HT.out (ha ▸ hb ▸ he))
            have hN := str_bne (congrArg AttrD.name he)
            have hN2 := str_beq (congrArg AttrD.name he)
            have hC := hide (show decide (a.cuts = b.cuts) = true by rw [he]; simp)
            have hV := hide (show decide (a.vals = b.vals) = true by rw [he]; simp)
            clear he ha hb
            go_wp2
            go_quiet (first
              | (go_at_call 123; exact quiet_add ((sameInts_any A1 B1 n1 m1 c1 d1 _ _ _ (H1.out.cuts.keep (below_drewN (Below.refl _ _) _)) (H2.out.cuts.keep (below_drewN (Below.refl _ _) _)) (by omega) (by omega)).mono fun _ _ h => ⟨h.1.trans (ret_bool hC.out), h.2⟩))
              | (go_at_call 127; exact quiet_add ((sameTexts_any A2 B2 n2 m2 c2 d2 _ _ _ (H1.out.vals.keep (below_drewN (Below.refl _ _) _)) (H2.out.vals.keep (below_drewN (Below.refl _ _) _)) (by omega) (by omega)).mono fun _ _ h => ⟨h.1.trans (ret_bool hV.out), h.2⟩)))
            go_wp2
            go_roundw
            case rel => exact ⟨K + 1, by omega, by go_num, HS.out, _, rfl⟩
            case measure => simp [intOf]; omega
          · have HS := hide (show ¬ d.attrs = e.attrs from take_ne_step default (k := K) (fun h => he (by rw [ha, hb]; exact h)))
            clear ha hb
            by_cases hN : a.name = b.name
            · have hN1 := str_bne hN
              have hN2 := str_beq hN
              by_cases hC : a.cuts = b.cuts
              · have hV : ¬ a.vals = b.vals := fun h => he (AttrD.ext_ hN hC h)
                have HC := hide (show decide (a.cuts = b.cuts) = true by simpa using hC)
                have HV := hide (show decide (a.vals = b.vals) = false by simpa using hV)
                clear he hN hC hV
                go_wp2
                go_quiet (first
                  | (go_at_call 123; exact quiet_add ((sameInts_any A1 B1 n1 m1 c1 d1 _ _ _ (H1.out.cuts.keep (below_drewN (Below.refl _ _) _)) (H2.out.cuts.keep (below_drewN (Below.refl _ _) _)) (by omega) (by omega)).mono fun _ _ h => ⟨h.1.trans (ret_bool HC.out), h.2⟩))
                  | (go_at_call 127; exact quiet_add ((sameTexts_any A2 B2 n2 m2 c2 d2 _ _ _ (H1.out.vals.keep (below_drewN (Below.refl _ _) _)) (H2.out.vals.keep (below_drewN (Below.refl _ _) _)) (by omega) (by omega)).mono fun _ _ h => ⟨h.1.trans (ret_bool HV.out), h.2⟩)))
                go_wp2
                go_ret
                exact ⟨ret_bool (by rw [hfin.out]; simp [HS.out]), below_drewN (below_drewN hbox _) _⟩
              · have HC := hide (show decide (a.cuts = b.cuts) = false by simpa using hC)
                clear he hN hC
                go_wp2
                go_quiet ((go_at_call 123; exact quiet_add ((sameInts_any A1 B1 n1 m1 c1 d1 _ _ _ (H1.out.cuts.keep (below_drewN (Below.refl _ _) _)) (H2.out.cuts.keep (below_drewN (Below.refl _ _) _)) (by omega) (by omega)).mono fun _ _ h => ⟨h.1.trans (ret_bool HC.out), h.2⟩)))
                go_wp2
                go_ret
                exact ⟨ret_bool (by rw [hfin.out]; simp [HS.out]), below_drewN (below_drewN hbox _) _⟩
            · have hN1 := str_bne_no hN
              have hN2 := str_beq_no hN
              clear he hN
              go_wp2
              go_quiet (fail)
              go_wp2
              go_ret
              exact ⟨ret_bool (by rw [hfin.out]; simp [HS.out]), below_drewN (below_drewN hbox _) _⟩
        · have HS := hide (show d.attrs = e.attrs by
            have h := HT.out
            rwa [List.take_of_length_le (by have := HL.out.1; omega), List.take_of_length_le (by have := HL'.out.1; omega)] at h)
          go_wp2
          go_ret
          exact ⟨ret_bool (by rw [hfin.out]; simp [HS.out]), below_drewN hbox _⟩
  · have HS := hide (show ¬ d.attrs = e.attrs by
      intro h
      have h1 := HL.out.1
      have h2 := HL'.out.1
      rw [h] at h1
      omega)
    have hne : ((n : Int) != (n' : Int)) = true := by rw [bne_iff_ne]; omega
    clear hnn
    go_enter Tryd.func78, Tryd.ntmps78
    go_wp2
    rw [← HW.out]
    go_ret
    exact ⟨ret_bool (by simp [schemaSameB, HS.out]), hbox⟩
end Go.Proofs.YtohodehmidbmlaaDoor
namespace Go.Proofs.YtohodehmidbmlaaDoor
open Go.RowKit
set_option maxRecDepth 100000

def cntAttr (a : AttrD) : Nat := 1 + a.cuts.length + a.vals.length
def lensA (ls : List AttrD) (K : Nat) : Nat := ((ls.take K).map cntAttr).sum
theorem lensA_step {ls : List AttrD} {K : Nat} (h : K < ls.length) : lensA ls (K + 1) = lensA ls K + cntAttr (ls[K]?.getD default) := sum_take h default
theorem lensA_le {ls : List AttrD} {K : Nat} : lensA ls K ≤ (ls.map cntAttr).sum := by
  unfold lensA
  conv => rhs; rw [← List.take_append_drop K ls, List.map_append, List.sum_append]
  omega
theorem lensA_all {ls : List AttrD} {K : Nat} (h : ls.length ≤ K) : lensA ls K = (ls.map cntAttr).sum := by unfold lensA; rw [List.take_of_length_le h]
/-- An attribute marked from k0 on. -/
def markAttrD (k0 : Int) (a : AttrD) : AttrD := ⟨markB k0, marksI (k0 + 1) a.cuts.length, marksS (k0 + 1 + a.cuts.length) a.vals.length⟩
def mixAttrs (k0 : Int) (ls : List AttrD) : Nat → List AttrD
  | 0 => ls
  | K + 1 => (mixAttrs k0 ls K).set K (markAttrD (k0 + lensA ls K) (ls[K]?.getD default))
def marksA (k0 : Int) (ls : List AttrD) : List AttrD := mixAttrs k0 ls ls.length
theorem mixAttrs_len (k0 : Int) (ls : List AttrD) (K : Nat) : (mixAttrs k0 ls K).length = ls.length := by
  induction K with
  | zero => rfl
  | succ K ih => rw [mixAttrs, List.length_set, ih]
theorem mixAttrs_old {k0 : Int} {ls : List AttrD} {K j : Nat} (h : K ≤ j) : (mixAttrs k0 ls K)[j]? = ls[j]? := by
  induction K with
  | zero => rfl
  | succ K ih => rw [mixAttrs, List.getElem?_set_ne (by omega), ih (by omega)]
theorem mixAttrs_new {k0 : Int} {ls : List AttrD} {K j : Nat} (h : j < K) (hj : j < ls.length) : (mixAttrs k0 ls K)[j]?.getD default = markAttrD (k0 + lensA ls j) (ls[j]?.getD default) := by
  induction K with
  | zero => omega
  | succ K ih =>
    rw [mixAttrs]
    by_cases e : j = K
    · subst e
      rw [List.getElem?_set_self (by rw [mixAttrs_len]; exact hj)]; rfl
    · rw [List.getElem?_set_ne (by omega)]
      exact ih (by omega)
theorem marksA_len (k0 : Int) (ls : List AttrD) : (marksA k0 ls).length = ls.length := mixAttrs_len _ _ _
theorem markB_size (k : Int) (h : k ≤ 1099511627776) : (markB k).size ≤ 1048576 := by
  unfold markB
  split
  · have key : ∀ (f n : Nat) (acc : List UInt8), n < 10 ^ f → (decTo n acc).length ≤ acc.length + f := by
      intro f
      induction f with
      | zero =>
        intro n acc hn
        have : n = 0 := by omega
        subst this
        rw [decTo_zero]; omega
      | succ f ih =>
        intro n acc hn
        by_cases h0 : n = 0
        · subst h0; rw [decTo_zero]; omega
        · rw [decTo_pos (by omega)]
          have := ih (n / 10) (UInt8.ofNat (48 + n % 10) :: acc) (by rw [Nat.pow_succ] at hn; omega)
          simp only [List.length_cons] at this
          omega
    have h1 := key 13 k.toNat [] (by omega)
    show (109 :: decTo k.toNat []).toArray.size ≤ _
    simp only [List.size_toArray, List.length_cons]
    simp only [List.length_nil] at h1
    omega
  · decide
theorem marksA_small {k0 : Int} {ls : List AttrD} (h : ∀ a ∈ ls, attrSmall a) (hk : k0 + (ls.map cntAttr).sum ≤ 1099511627776) : ∀ a ∈ marksA k0 ls, attrSmall a := by
  intro a ha
  obtain ⟨j, hj, rfl⟩ := List.mem_iff_getElem.1 ha
  have hj' : j < ls.length := by rwa [marksA_len] at hj
  have e : (marksA k0 ls)[j] = markAttrD (k0 + lensA ls j) (ls[j]?.getD default) := by
    rw [← mixAttrs_new hj' hj', getD_of_lt (by rw [mixAttrs_len]; exact hj')]; rfl
  have hle : lensA ls (j + 1) ≤ _ := lensA_le (ls := ls) (K := j + 1)
  rw [lensA_step hj'] at hle
  obtain ⟨q1, q2, q3, q4⟩ := h _ (List.getElem_mem hj')
  rw [e, markAttrD]
  have hg : ls[j]?.getD default = ls[j] := getD_of_lt hj' default
  rw [hg] at hle ⊢
  have hc : cntAttr ls[j] = 1 + ls[j].cuts.length + ls[j].vals.length := rfl
  refine ⟨markB_size _ (by omega), fun s hs => ?_, by simp only [marksI_len]; exact q3, by simp only [marksS_len]; exact q4⟩
  simp only [marksS, List.mem_map, List.mem_range] at hs
  obtain ⟨i, hi, rfl⟩ := hs
  exact markB_size _ (by omega)

theorem strRow_of {B N : Nat} {w : World} {r : Nat → Row} (hb : Bag B N w r) {i : Nat} (hi : i < N) {A' : Option Addr} {n' c' : Nat} {l : List ByteArray} (hr : r i = strRow A' n' c' l) : w.ownsRow B 9 1 (.slice A' n' c') n' (l.map Value.string) := by
  have := hb.own i hi
  rw [hr] at this
  exact this
theorem intRow_of {B N : Nat} {w : World} {r : Nat → Row} (hb : Bag B N w r) {i : Nat} (hi : i < N) {A' : Option Addr} {n' c' : Nat} {l : List Int} (hr : r i = intRow A' n' c' l) : w.ownsRow B 3 1 (.slice A' n' c') n' (l.map (Value.int .i64)) := by
  have := hb.own i hi
  rw [hr] at this
  exact this
/-- Attribute K's three parts turned: its name, its cuts, its words. -/
theorem AttrsTo.turned {r r' : Nat → Row} {A : Option Addr} {n c K : Nat} {ls : List AttrD} {a : AttrD} (h : AttrsTo r A n c ls n) (hK : K < n)
    {A1 A2 : Option Addr} {n1 c1 n2 c2 : Nat} (g1 : (r 0).xs[K * 3 + 1]? = some (.slice A1 n1 c1)) (g2 : (r 0).xs[K * 3 + 2]? = some (.slice A2 n2 c2)) (hlen : (r 0).xs.length = n * 3)
    (h0 : r' 0 = ⟨(r 0).ty, (r 0).sz, (r 0).val, (r 0).len, (r 0).xs.set (K * 3) (.string a.name)⟩) (h1 : r' (1 + 2 * K) = intRow A1 n1 c1 a.cuts) (h2 : r' (2 + 2 * K) = strRow A2 n2 c2 a.vals)
    (hoth : ∀ i, i < n → i ≠ K → r' (1 + 2 * i) = r (1 + 2 * i) ∧ r' (2 + 2 * i) = r (2 + 2 * i)) : AttrsTo r' A n c (ls.set K a) n := by
  refine ⟨by rw [List.length_set]; exact h.len, by rw [h0]; exact h.head, fun i hi => ?_⟩
  rw [h0]
  have hKl : K < ls.length := by rw [← h.len]; exact hK
  by_cases e : i = K
  · subst e
    refine ⟨A1, n1, c1, A2, n2, c2, ?_, ?_, ?_, ?_, ?_⟩
    · show ((r 0).xs.set (i * 3) _)[i * 3]? = _
      rw [List.getElem?_set_self (by omega), List.getElem?_set_self hKl]; rfl
    · show ((r 0).xs.set (i * 3) _)[i * 3 + 1]? = _
      rw [List.getElem?_set_ne (by omega)]; exact g1
    · show ((r 0).xs.set (i * 3) _)[i * 3 + 2]? = _
      rw [List.getElem?_set_ne (by omega)]; exact g2
    · rw [List.getElem?_set_self hKl]; exact h1
    · rw [List.getElem?_set_self hKl]; exact h2
  · obtain ⟨B1, m1, d1, B2, m2, d2, k0, k1, k2, k3, k4⟩ := h.rows i hi
    obtain ⟨o1, o2⟩ := hoth i hi e
    refine ⟨B1, m1, d1, B2, m2, d2, ?_, ?_, ?_, ?_, ?_⟩
    · show ((r 0).xs.set (K * 3) _)[i * 3]? = _
      rw [List.getElem?_set_ne (by omega), List.getElem?_set_ne (Ne.symm e)]; exact k0
    · show ((r 0).xs.set (K * 3) _)[i * 3 + 1]? = _
      rw [List.getElem?_set_ne (by omega)]; exact k1
    · show ((r 0).xs.set (K * 3) _)[i * 3 + 2]? = _
      rw [List.getElem?_set_ne (by omega)]; exact k2
    · rw [o1, List.getElem?_set_ne (Ne.symm e)]; exact k3
    · rw [o2, List.getElem?_set_ne (Ne.symm e)]; exact k4
end Go.Proofs.YtohodehmidbmlaaDoor
namespace Go.Proofs.YtohodehmidbmlaaDoor
open Go.RowKit
set_option maxRecDepth 100000

set_option maxHeartbeats 4000000 in
theorem markAttrS_any (S : Nat → Prop) (B : Nat) (A : Option Addr) (n c : Nat) (ls : List AttrD) (r : Nat → Row) (k0 : Int) (w : World) (hb : Bag B (1 + 2 * n) w r) (ht : AttrsTo r A n c ls n) (hS : ∀ k, has (1 + 2 * n) r k → S k)
    (hn : n ≤ 1048576) (hs : (ls.map cntAttr).sum ≤ 2097152) (h0 : 0 ≤ k0) (h1 : k0 ≤ 1073741824) :
    Calls Tryd.prog 93 #[.slice A n c, .int .i64 k0] w fun e w' => e = .returned (.int .i64 (k0 + (ls.map cntAttr).sum)) ∧
      (∃ r', Bag B (1 + 2 * n) w' r' ∧ AttrsTo r' A n c (marksA k0 ls) n ∧ ∀ k, has (1 + 2 * n) r' k ↔ has (1 + 2 * n) r k) ∧ Only S w w' := by
  have hlen := hide ht.len
  have HB := hide hb
  have HT := hide ht
  clear hb ht
  go_enter Tryd.func93, Tryd.ntmps93
  go_wp2
  go_loopw [1, 5] (fun v i wr => ∃ (K L : Nat), K ≤ n ∧ i = .int .i64 K ∧ v = .int .i64 (k0 + L) ∧ L ≤ 2097152 ∧ Hid (L = lensA ls K) ∧ (∃ r', Bag B (1 + 2 * n) wr r' ∧ AttrsTo r' A n c (mixAttrs k0 ls K) n ∧ ∀ k, has (1 + 2 * n) r' k ↔ has (1 + 2 * n) r k) ∧ Only S w wr) (fun _ i _ => n - (intOf i).toNat)
  case atStart => exact ⟨0, 0, Nat.zero_le _, rfl, by simp, by omega, show _ = _ by simp [lensA], ⟨r, HB.out, HT.out, fun _ => Iff.rfl⟩, Only.refl _ _⟩
  case round =>
    clear HB HT
    obtain ⟨K, L, hk, rfl, rfl, hL, hLs, ⟨r', hb, ht, hhas⟩, hon⟩ := hrel
    by_cases hlt : K < n
    · have HH := hide hhas
      clear hhas
      obtain ⟨A1, n1, c1, A2, n2, c2, q0, q1, q2, q3, q4⟩ := ht.rows K hlt
      have hO := ht.outer hb (by omega)
      obtain ⟨g, rfl, hg1, hg2⟩ := own_form hO (by omega)
      have hkl := hide (show K < ls.length by rw [← hlen.out]; exact hlt)
      have e1 := hide (show (mixAttrs k0 ls K)[K]?.getD default = ls[K]?.getD default by rw [mixAttrs_old (Nat.le_refl _)])
      rw [e1.out] at q0 q3 q4
      obtain ⟨a, ha⟩ : ∃ a, a = ls[K]?.getD default := ⟨_, rfl⟩
      rw [← ha] at q0 q3 q4
      have HA := hide ha
      have z1 := hide (show n1 = a.cuts.length from (ints_of (intRow_of hb (by omega) q3)).1)
      have z2 := hide (show n2 = a.vals.length from (strs_of (strRow_of hb (by omega) q4)).1)
      have e3 := hide (show lensA ls (K + 1) = L + 1 + n1 + n2 by rw [lensA_step hkl.out, ← hLs.out, ← HA.out, cntAttr, ← z1.out, ← z2.out]; omega)
      have hL2 : L + 1 + n1 + n2 ≤ 2097152 := by rw [← e3.out]; exact Nat.le_trans lensA_le hs
      have hxl : (r' 0).xs.length = n * 3 := hO.1
      have HB := hide hb
      have HT := hide ht
      have HQ := hide (And.intro q1 (And.intro q2 (And.intro q3 (And.intro q4 hxl))))
      have hS0 := hide (show S g from hS g ((HH.out g).1 ⟨0, by omega, by unfold Row.blk; rw [ht.head.2.2.1]; rfl⟩))
      have hv := hide (show (r' 0).val = .slice (some ⟨g, 0, none⟩) (r' 0).len c from by rw [ht.head.2.2.1, ht.head.2.2.2])
      clear hb ht q0 q1 q2 q3 q4 hO ha hxl
      go_wp2_with (fail)
      refine (markText_any _ _ (by omega)).mono ?_
      rintro e w1 ⟨rfl, hb1⟩
      have hbag1 := HB.out.below hb1
      have hO1 := HT.out.outer hbag1 (by omega)
      have p0 : ∃ u, w1.cell? ⟨g, K * 3, none⟩ = some u := by
        rw [hO1.cellAt (K * 3) (by omega)]
        exact ⟨_, List.getElem?_eq_getElem (by have := hO1.1; omega)⟩
      obtain ⟨u0, p0⟩ := p0
      have p1 := (hO1.cellAt (K * 3 + 1) (by omega)).trans HQ.out.1
      have f0 := hO1.frozenAt (K * 3)
      have hbag2 := hbag1.poke (i := 0) (g := g) (c := c) (by omega) hv.out (K * 3) (.string (markB (k0 + L)))
      obtain ⟨r1, hr1⟩ : ∃ s, s = rput r' 0 ⟨(r' 0).ty, (r' 0).sz, (r' 0).val, (r' 0).len, (r' 0).xs.set (K * 3) (.string (markB (k0 + L)))⟩ := ⟨_, rfl⟩
      rw [← hr1] at hbag2
      have y1 : r1 (1 + 2 * K) = intRow A1 n1 c1 a.cuts := by rw [hr1, rput_other _ _ (by omega)]; exact HQ.out.2.2.1
      have y2 : r1 (2 + 2 * K) = strRow A2 n2 c2 a.vals := by rw [hr1, rput_other _ _ (by omega)]; exact HQ.out.2.2.2.1
      have hon2 := hide ((hon.trans (Only.of_below hb1)).setCell (p := ⟨g, K * 3, none⟩) hS0.out (.string (markB (k0 + L))))
      have hhr1 := hide (show ∀ k, has (1 + 2 * n) r1 k ↔ has (1 + 2 * n) r k from fun k => by rw [hr1]; exact (has_rput (r := r') (i := 0) (s := ⟨(r' 0).ty, (r' 0).sz, (r' 0).val, (r' 0).len, (r' 0).xs.set (K * 3) (.string (markB (k0 + L)))⟩) rfl).trans (HH.out k))
      have HB2 := hide hbag2
      have HR1 := hide hr1
      have HY := hide (And.intro y1 y2)
      have HI1 := hide (intRow_of hbag2 (by omega) y1)
      clear hb1 hbag1 hO1 hbag2 hr1 y1 y2 hon
      go_wp2_with (fail)
      refine (markIntS_any B A1 n1 c1 a.cuts _ _ HI1.out (by omega) (by omega) (by omega)).mono ?_
      rintro e w2 ⟨rfl, ho2, hg2'⟩
      have hbag3 := HB2.out.store (i := 1 + 2 * K) (s := intRow A1 n1 c1 (marksI (k0 + L + 1) n1)) (by omega) (by rw [HY.out.1]; exact hg2') ho2 (by rw [HY.out.1]; rfl)
      obtain ⟨r2, hr2⟩ : ∃ s, s = rput r1 (1 + 2 * K) (intRow A1 n1 c1 (marksI (k0 + L + 1) n1)) := ⟨_, rfl⟩
      rw [← hr2] at hbag3
      have hon3 := hide (hon2.out.trans (Only.of_grown (S := S) hg2' fun k hk => hS k ((hhr1.out k).1 ⟨1 + 2 * K, by omega, by rw [HY.out.1]; exact hk⟩)))
      have hhr2 := hide (show ∀ k, has (1 + 2 * n) r2 k ↔ has (1 + 2 * n) r k from fun k => by rw [hr2]; exact (has_rput (by rw [HY.out.1]; rfl)).trans (hhr1.out k))
      have y2 : r2 (2 + 2 * K) = strRow A2 n2 c2 a.vals := by rw [hr2, rput_other _ _ (by omega)]; exact HY.out.2
      have y0 : r2 0 = ⟨(r' 0).ty, (r' 0).sz, (r' 0).val, (r' 0).len, (r' 0).xs.set (K * 3) (.string (markB (k0 + L)))⟩ := by rw [hr2, rput_other _ _ (by omega), HR1.out, rput_same]
      have p2 : w2.cell? ⟨g, K * 3 + 2, none⟩ = some (.slice A2 n2 c2) := by
        have h := hbag3.own 0 (by omega)
        unfold Row.own at h
        rw [y0] at h
        have h' : w2.ownsRow B (r' 0).ty (r' 0).sz (r' 0).val (r' 0).len ((r' 0).xs.set (K * 3) (.string (markB (k0 + L)))) := h
        rw [HT.out.head.2.2.1, HT.out.head.2.2.2, HT.out.head.2.1] at h'
        rw [h'.cellAt (K * 3 + 2) (by omega), List.getElem?_set_ne (by omega)]
        exact HQ.out.2.1
      have HB3 := hide hbag3
      have HR2 := hide hr2
      have HY2 := hide (And.intro y0 y2)
      have HI2 := hide (strRow_of hbag3 (by omega) y2)
      clear ho2 hg2' hbag3 hr2 y0 y2 p0 p1 f0 hon2
      go_wp2_with (fail)
      refine (markStringS_any B A2 n2 c2 a.vals _ _ HI2.out (by omega) (by omega) (by omega)).mono ?_
      rintro e w3 ⟨rfl, ho3, hg3⟩
      have hbag4 := HB3.out.store (i := 2 + 2 * K) (s := strRow A2 n2 c2 (marksS (k0 + L + 1 + n1) n2)) (by omega) (by rw [HY2.out.2]; exact hg3) ho3 (by rw [HY2.out.2]; rfl)
      have hon4 := hide (hon3.out.trans (Only.of_grown (S := S) hg3 fun k hk => hS k ((hhr2.out k).1 ⟨2 + 2 * K, by omega, by rw [HY2.out.2]; exact hk⟩)))
      have hhr3 := hide (show ∀ k, has (1 + 2 * n) (rput r2 (2 + 2 * K) (strRow A2 n2 c2 (marksS (k0 + L + 1 + n1) n2))) k ↔ has (1 + 2 * n) r k from fun k => (has_rput (by rw [HY2.out.2]; rfl)).trans (hhr2.out k))
      have hst := hide (show (mixAttrs k0 ls K).set K (markAttrD (k0 + L) a) = mixAttrs k0 ls (K + 1) by rw [mixAttrs, ← hLs.out, ← HA.out])
      have hturn := hide (HT.out.turned (a := markAttrD (k0 + L) a) (r' := rput r2 (2 + 2 * K) (strRow A2 n2 c2 (marksS (k0 + L + 1 + n1) n2))) hlt HQ.out.1 HQ.out.2.1 HQ.out.2.2.2.2
        (by rw [rput_other _ _ (by omega), HY2.out.1]; rfl)
        (by rw [rput_other _ _ (by omega), HR2.out, rput_same, markAttrD, ← z1.out])
        (by rw [rput_same, markAttrD, ← z1.out, ← z2.out])
        (fun i hi hne => ⟨by rw [rput_other _ _ (by omega), HR2.out, rput_other _ _ (by omega), HR1.out, rput_other _ _ (by omega)], by rw [rput_other _ _ (by omega), HR2.out, rput_other _ _ (by omega), HR1.out, rput_other _ _ (by omega)]⟩))
      have HB4 := hide hbag4
      clear ho3 hg3 hbag4 p2 hon3
      go_wp2
      go_roundw
      case rel => exact ⟨K + 1, L + 1 + n1 + n2, by omega, by go_num, by go_num, hL2, e3.out.symm, ⟨_, HB4.out, hst.out ▸ hturn.out, hhr3.out⟩, hon4.out⟩
      case measure => simp [intOf]; omega
    · obtain rfl : n = K := by omega
      have hf := hide (show mixAttrs k0 ls n = marksA k0 ls by rw [marksA, ← hlen.out])
      have hl2 := hide (show L = (ls.map cntAttr).sum by rw [hLs.out]; exact lensA_all (by rw [← hlen.out]; exact Nat.le_refl _))
      go_wp2
      go_ret
      exact ⟨ret_int (by rw [hl2.out]), ⟨r', hb, hf.out ▸ ht, hhas⟩, hon⟩
end Go.Proofs.YtohodehmidbmlaaDoor
namespace Go.Proofs.YtohodehmidbmlaaDoor
open Go.RowKit
set_option maxRecDepth 100000

def cntSchema (d : SchemaD) : Nat := (d.attrs.map cntAttr).sum + d.classes.length
def markSchemaD (k0 : Int) (d : SchemaD) : SchemaD := ⟨marksA k0 d.attrs, marksS (k0 + (d.attrs.map cntAttr).sum) d.classes.length⟩
theorem cntAttr_le : ∀ (l : List AttrD), (l.map cntAttr).sum ≤ wAttrs l := by
  intro l
  unfold wAttrs
  induction l with
  | nil => simp
  | cons a l ih =>
    have h : cntAttr a ≤ 1 + wAttr a := by unfold cntAttr wAttr wStrs; omega
    simp only [List.map_cons, List.sum_cons, List.length_cons]
    omega
theorem cntSchema_le (d : SchemaD) : cntSchema d ≤ wSchema d := by
  have := cntAttr_le d.attrs
  unfold cntSchema wSchema wStrs
  omega

set_option maxHeartbeats 2000000 in
theorem markSchema_any (B H : Nat) (x0 x1 : Value) (d : SchemaD) (k0 : Int) (w : World) (h : SchemaO B H w x0 x1 d) (hs : cntSchema d ≤ 1048576) (h0 : 0 ≤ k0) (h1 : k0 ≤ 1048576) :
    Calls Tryd.prog 27 #[.agg #[x0, x1], .int .i64 k0] w fun e w' => e = .returned (.int .i64 (k0 + cntSchema d)) ∧ SchemaO B H w' x0 x1 (markSchemaD k0 d) ∧ Only (fun j => B ≤ j ∧ j < H) w w' := by
  obtain ⟨A, n, c, D, m, k, r, rfl, rfl, hb, h0', hr, hn, hm, hz, hz2, hH⟩ := h
  have hlen : m = d.classes.length := (strs_of (strRow_of hb (by omega) h0')).1
  have hal : Below w.heap.size w (w.alloc (.cells #[.slice A n c, .slice D m k] 35)) := (Below.refl _ _).alloc (Nat.le_refl _) _
  have hX := Box2.new w (.slice A n c) (.slice D m k) 35
  obtain ⟨W, hW⟩ : ∃ W, W = w.alloc (.cells #[.slice A n c, .slice D m k] 35) := ⟨_, rfl⟩
  rw [← hW] at hX hal
  have hbW := hb.below hal
  have HB := hide hbW
  have HT := hide hr
  have H0 := hide h0'
  have HR0 := hide (strRow_of hbW (by omega) h0')
  have HH := hide hH
  have hHw := hide (show ∀ k, has (2 + 2 * n) r k → k < w.heap.size from fun k hk => (hb.lt hk).2)
  obtain ⟨L, hL⟩ : ∃ L, L = (d.attrs.map cntAttr).sum := ⟨_, rfl⟩
  have hcnt := hide (show cntSchema d = L + m by rw [cntSchema, hlen, hL])
  have hs2 : L + m ≤ 1048576 := by rw [← hcnt.out]; exact hs
  have hl1 := hide hlen
  have hLh := hide hL
  have HW := hide hW
  have hbig := hide (show (d.attrs.map cntAttr).sum ≤ 2097152 by rw [← hL]; omega)
  clear hb hr h0' hH hbW hlen hW hL
  obtain ⟨k0', k1', k2'⟩ := id hX
  go_enter Tryd.func27, Tryd.ntmps27
  go_wp2_with (fail)
  rw [← HW.out]
  refine (markAttrS_any (fun j => has (1 + 2 * n) r j) B A n c d.attrs r _ _ (HB.out.less (by omega)) HT.out (fun _ h => h) (by omega) hbig.out (by omega) (by omega)).mono ?_
  rintro e w1 ⟨rfl, ⟨r1, hb1, ht1, hh1⟩, hO1⟩
  rw [← hLh.out]
  have hlow : ∀ j, has (1 + 2 * n) r j → has (2 + 2 * n) r j := by
    rintro j ⟨i, hi, e⟩
    exact ⟨i, by omega, e⟩
  have hX1 : Box2 w1 w.heap.size (.slice A n c) (.slice D m k) :=
    ⟨(hO1.cell (p := ⟨w.heap.size, 0, none⟩) (fun hh => by have := hHw.out _ (hlow _ hh); simp at this) hX.lt).trans hX.c0, (hO1.cell (p := ⟨w.heap.size, 1, none⟩) (fun hh => by have := hHw.out _ (hlow _ hh); simp at this) hX.lt).trans hX.c1, Nat.lt_of_lt_of_le hX.lt hO1.size⟩
  have hdis : ∀ i, i < 1 + 2 * n → ∀ j, (r i).blk = some j → (strRow D m k d.classes).blk ≠ some j := by
    intro i hi j hj e
    rcases HB.out.sep i (1 + 2 * n) (by omega) (by omega) (by omega) with q | q
    · rw [q] at hj; cases hj
    · rw [H0.out, hj] at q
      exact q e.symm
  have hrow1 : w1.ownsRow B 9 1 (.slice D m k) m (d.classes.map Value.string) := by
    refine own_only HR0.out hO1 fun j hj hh => ?_
    obtain ⟨i, hi, e⟩ := hh
    exact hdis i hi j e hj
  have HB1 := hide hb1
  have HT1 := hide ht1
  have HH1 := hide hh1
  have HO1 := hide hO1
  have HR1 := hide hrow1
  have HD := hide hdis
  have HLow := hide hlow
  clear hb1 ht1 hh1 hO1 hrow1 hX k0' k1' k2' hdis hlow
  obtain ⟨k0', k1', k2'⟩ := hX1
  go_wp2_with (fail)
  refine (markStringS_any B D m k d.classes _ _ HR1.out (by omega) (by omega) (by omega)).mono ?_
  rintro e w2 ⟨rfl, ho2, hg2⟩
  have hOg : Only (fun j => (strRow D m k d.classes).blk = some j) w1 w2 := Only.of_grown hg2 fun k hk => hk
  have hb2 : Bag B (1 + 2 * n) w2 r1 := HB1.out.only hOg fun j hj hh => by
    obtain ⟨i, hi, e⟩ := (HH1.out j).1 hj
    exact HD.out i hi j e hh
  have hO2 : Only (fun j => has (2 + 2 * n) r j) W w2 := (HO1.out.mono HLow.out).trans (hOg.mono fun j hj => ⟨1 + 2 * n, by omega, by rw [H0.out]; exact hj⟩)
  have hkey : ∀ i, i < 1 + 2 * n → (strRow D m k (marksS (k0 + L) m)).apart (r1 i) := by
    intro i hi
    unfold Row.apart
    rcases hbk : (strRow D m k (marksS (k0 + L) m)).blk with _ | g
    · exact .inl rfl
    · refine .inr fun e => ?_
      obtain ⟨i2, hi2, e2⟩ := (HH1.out g).1 ⟨i, hi, e.symm⟩
      exact HD.out i2 hi2 g e2 hbk
  have hfin : SchemaO B H w2 (.slice A n c) (.slice D m k) (markSchemaD k0 d) := by
    refine ⟨A, n, c, D, m, k, rput r1 (1 + 2 * n) (strRow D m k (marksS (k0 + L) m)), rfl, rfl, ?_, ?_, ?_, hn, hm, ?_, ?_, ?_⟩
    · refine ⟨fun i hi => ?_, fun i j hi hj hij => ?_⟩
      · by_cases e : i = 1 + 2 * n
        · subst e; rw [rput_same]; exact ho2
        · rw [rput_other _ _ e]; exact hb2.own i (by omega)
      · by_cases e : i = 1 + 2 * n
        · subst e
          rw [rput_same, rput_other _ _ (Ne.symm hij)]
          exact hkey j (by omega)
        · rw [rput_other _ _ e]
          by_cases e2 : j = 1 + 2 * n
          · subst e2
            rw [rput_same]
            exact (hkey i (by omega)).symm
          · rw [rput_other _ _ e2]
            exact hb2.sep i j (by omega) (by omega) hij
    · rw [rput_same, markSchemaD, ← hLh.out, ← hl1.out]
    · exact HT1.out.congr fun i hi => rput_other _ _ (by omega)
    · exact marksA_small hz (by rw [← hLh.out]; omega)
    · intro s hs
      simp only [markSchemaD, marksS, List.mem_map, List.mem_range] at hs
      obtain ⟨i, hi, rfl⟩ := hs
      refine markB_size _ ?_
      rw [← hLh.out]
      have := hl1.out
      omega
    · rintro j ⟨i, hi, e⟩
      by_cases q : i = 1 + 2 * n
      · subst q
        rw [rput_same] at e
        exact HH.out j ⟨1 + 2 * n, by omega, by rw [H0.out]; exact e⟩
      · rw [rput_other _ _ q] at e
        exact HH.out j (HLow.out j ((HH1.out j).1 ⟨i, by omega, e⟩))
  have hOnly : Only (fun j => B ≤ j ∧ j < H) w w2 := (Only.of_below (by rw [HW.out]; exact (Below.refl _ _).alloc (Nat.le_refl _) _)).trans (hO2.mono fun j hj => ⟨(HB.out.lt hj).1, HH.out j hj⟩)
  clear hO2 hOg hb2 ho2 hg2 hkey
  go_wp2
  go_ret
  exact ⟨ret_int (by rw [hcnt.out]; omega), hfin, hOnly⟩
end Go.Proofs.YtohodehmidbmlaaDoor
namespace Go.Proofs.YtohodehmidbmlaaDoor
open Go.RowKit
set_option maxRecDepth 100000

set_option maxHeartbeats 2000000 in
theorem heldAttrS_any (A : Option Addr) (n c : Nat) (ls : List AttrD) (k0 : Int) (w : World) (hl : AttrsM w A n (marksA k0 ls))
    (hs : (ls.map cntAttr).sum ≤ 2097152) (hn : n ≤ 1048576) (h0 : 0 ≤ k0) (h1 : k0 ≤ 1073741824) :
    Calls Tryd.prog 106 #[.slice A n c, .int .i64 k0] w fun e w' => e = .returned (.int .i64 (k0 + (ls.map cntAttr).sum)) ∧ Below w.heap.size w w' := by
  have HL := hide hl
  have hlen := hide (show n = ls.length by rw [hl.1, marksA_len])
  clear hl
  go_enter Tryd.func106, Tryd.ntmps106
  go_wp2
  go_loopw [1, 5] (fun v i wr => ∃ (K L : Nat), K ≤ n ∧ i = .int .i64 K ∧ v = .int .i64 (k0 + L) ∧ L ≤ 2097152 ∧ Hid (L = lensA ls K) ∧ Below w.heap.size w wr) (fun _ i _ => n - (intOf i).toNat)
  case atStart => exact ⟨0, 0, Nat.zero_le _, rfl, by simp, by omega, show _ = _ by simp [lensA], Below.refl _ _⟩
  case round =>
    obtain ⟨K, L, hk, rfl, rfl, hL, hLs, hbel⟩ := hrel
    by_cases hlt : K < n
    · obtain ⟨ad, A1, n1, c1, A2, n2, c2, rfl, hbk, g0, g1, g2, hI⟩ := (HL.out.keep hbel).at_ hlt
      have hkl := hide (show K < ls.length by rw [← hlen.out]; exact hlt)
      have e1 := hide (show (marksA k0 ls)[K]?.getD default = markAttrD (k0 + L) (ls[K]?.getD default) by rw [marksA, mixAttrs_new hkl.out hkl.out, ← hLs.out])
      rw [e1.out] at g0 hI
      have e3 := hide (show lensA ls (K + 1) = L + cntAttr (ls[K]?.getD default) by rw [lensA_step hkl.out, ← hLs.out])
      obtain ⟨a, ha⟩ : ∃ a, a = ls[K]?.getD default := ⟨_, rfl⟩
      rw [← ha] at g0 hI e3
      have HA := hide ha
      have z1 : n1 = a.cuts.length := by have := hI.cuts.1; rwa [markAttrD, marksI_len] at this
      have z2 : n2 = a.vals.length := by have := hI.vals.1; rwa [markAttrD, marksS_len] at this
      have hL2 : L + 1 + n1 + n2 ≤ 2097152 := by
        have h := e3.out
        unfold cntAttr at h
        have := lensA_le (ls := ls) (K := K + 1)
        omega
      have e4 := hide (show lensA ls (K + 1) = L + 1 + n1 + n2 by have h := e3.out; unfold cntAttr at h; omega)
      have hc : Ints wr A1 n1 (marksI (k0 + L + 1) n1) := by have := hI.cuts; rwa [markAttrD, ← z1] at this
      have hv : Strs wr A2 n2 (marksS (k0 + L + 1 + n1) n2) := by have := hI.vals; rwa [markAttrD, ← z1, ← z2] at this
      have hg0 : wr.cell? (ad.add (K * 3)) = some (.string (markB (k0 + L))) := g0
      have hbk2 : (ad.add (K * 3)).block < wr.heap.size := by rw [block_of_add]; exact hbk
      have HC := hide hc
      have HV := hide hv
      have HN := hide (And.intro z1 z2)
      clear hI ha g0 hc hv z1 z2 e3 e1
      have hrf : Below wr.heap.size wr wr := Below.refl _ _
      go_wp2
      go_region_held3 (fun W => W.cell? (ad.add (K * 3)) = some (.string (markB (k0 + L))) ∧ (ad.add (K * 3)).block < W.heap.size ∧ Below wr.heap.size wr W) (first | assumption | exact keep_below (by assumption) (by assumption) | exact keep_drew (by assumption) | exact ⟨by assumption, by assumption, by first | assumption | exact Below.drew (by assumption)⟩) ((go_at_call 133; refine (markText_any _ _ (by omega)).mono ?_; rintro e w1 ⟨rfl, hb1⟩))
      obtain ⟨-, -, hbw⟩ := ‹_ ∧ _ ∧ Below wr.heap.size wr _›
      have q1 := (hbw.cell (p := ⟨(ad.add (K * 3)).block, (ad.add (K * 3)).off + 1, none⟩) hbk2).trans g1
      have q2 := (hbw.cell (p := ⟨(ad.add (K * 3)).block, (ad.add (K * 3)).off + 2, none⟩) hbk2).trans g2
      clear hrf g1 g2 hg0
      go_wp2_with (fail)
      refine (heldIntS_any A1 n1 c1 _ _ (HC.out.keep hbw) (by omega) (by omega) (by omega)).mono ?_
      rintro e w2 ⟨rfl, rfl⟩
      go_wp2_with (fail)
      refine (heldStringS_any A2 n2 c2 _ _ (HV.out.keep hbw) (by omega) (by omega) (by omega)).mono ?_
      rintro e w3 ⟨rfl, hb3⟩
      have hb4 := bthen (bthen hbel hbw) hb3
      clear hbw hb3 q1 q2
      go_wp2
      go_roundw
      case rel => exact ⟨K + 1, L + 1 + n1 + n2, by omega, by go_num, by go_num, hL2, e4.out.symm, hb4⟩
      case measure => simp [intOf]; omega
    · obtain rfl : n = K := by omega
      have hl2 := hide (show L = (ls.map cntAttr).sum by rw [hLs.out]; exact lensA_all (by rw [← hlen.out]; exact Nat.le_refl _))
      go_wp2
      go_ret
      exact ⟨ret_int (by rw [hl2.out]), hbel⟩

set_option maxHeartbeats 1000000 in
theorem heldSchema_any (x0 x1 : Value) (d : SchemaD) (k0 : Int) (w : World) (h : SchemaM w x0 x1 (markSchemaD k0 d)) (hs : cntSchema d ≤ 1048576) (h0 : 0 ≤ k0) (h1 : k0 ≤ 1048576) :
    Calls Tryd.prog 37 #[.agg #[x0, x1], .int .i64 k0] w fun e w' => e = .returned (.int .i64 (k0 + cntSchema d)) ∧ Below w.heap.size w w' := by
  obtain ⟨A, n, c, D, m, k, rfl, rfl, hl, hn, hr, -, hm, -⟩ := h
  have hlen : m = d.classes.length := by have := hr.1; rwa [markSchemaD, marksS_len] at this
  have hal : Below w.heap.size w (w.alloc (.cells #[.slice A n c, .slice D m k] 35)) := (Below.refl _ _).alloc (Nat.le_refl _) _
  obtain ⟨L, hL⟩ : ∃ L, L = (d.attrs.map cntAttr).sum := ⟨_, rfl⟩
  have hl' : AttrsM w A n (marksA k0 d.attrs) := hl
  have hr' : Strs w D m (marksS (k0 + L) m) := by have := hr; rwa [markSchemaD, ← hlen, ← hL] at this
  have HL := hide (hl'.keep hal)
  have HR := hide (hr'.keep hal)
  have hcnt := hide (show cntSchema d = L + m by rw [cntSchema, hlen, hL])
  have hs2 : L + m ≤ 1048576 := by rw [← hcnt.out]; exact hs
  have HLL := hide hL
  have hsum : Hid ((d.attrs.map cntAttr).sum ≤ 2097152) := hide (by rw [← hL]; omega)
  clear hl hr hl' hr' hlen hL
  have hX := Box2.new w (.slice A n c) (.slice D m k) 35
  go_enter Tryd.func37, Tryd.ntmps37
  obtain ⟨k0', k1', k2'⟩ := id hX
  go_wp2_with (fail)
  refine (heldAttrS_any A n c d.attrs _ _ HL.out hsum.out (by omega) (by omega) (by omega)).mono ?_
  rintro e w1 ⟨rfl, hb1⟩
  rw [← HLL.out]
  have hB := bthen hal hb1
  have hX1 := hX.keep hb1
  have HR1 := hide (HR.out.keep hb1)
  clear k0' k1' k2' hb1 hX
  obtain ⟨k0', k1', k2'⟩ := hX1
  go_wp2_with (fail)
  refine (heldStringS_any D m k _ _ HR1.out (by omega) (by omega) (by omega)).mono ?_
  rintro e w2 ⟨rfl, hb2⟩
  have hB2 := bthen hB hb2
  clear hb2
  go_wp2
  go_ret
  exact ⟨ret_int (by rw [hcnt.out]; omega), hB2⟩

/-! One attribute: its name is a plain string, no mark is put there. -/
def markOneD (k0 : Int) (a : AttrD) : AttrD := ⟨a.name, marksI k0 a.cuts.length, marksS (k0 + a.cuts.length) a.vals.length⟩
set_option maxHeartbeats 1000000 in
theorem markAttr_any (B : Nat) (A1 : Option Addr) (n1 c1 : Nat) (A2 : Option Addr) (n2 c2 : Nat) (a : AttrD) (k0 : Int) (w : World) (h : Bag B 2 w (attrRows A1 n1 c1 A2 n2 c2 a)) (hs : a.cuts.length + a.vals.length ≤ 2097152) (h0 : 0 ≤ k0) (h1 : k0 ≤ 1048576) :
    Calls Tryd.prog 75 #[.agg #[.string a.name, .slice A1 n1 c1, .slice A2 n2 c2], .int .i64 k0] w fun e w' => e = .returned (.int .i64 (k0 + a.cuts.length + a.vals.length)) ∧
      Bag B 2 w' (attrRows A1 n1 c1 A2 n2 c2 (markOneD k0 a)) ∧ Only (fun j => Value.ownBlock (.slice A1 n1 c1) = some j ∨ Value.ownBlock (.slice A2 n2 c2) = some j) w w' := by
  have z1 : n1 = a.cuts.length := by have := (ints_of (attr_own1 h)).1; exact this
  have z2 : n2 = a.vals.length := by have := (strs_of (attr_own2 h)).1; exact this
  have hal : Below w.heap.size w (w.alloc (.cells #[.string a.name, .slice A1 n1 c1, .slice A2 n2 c2] 64)) := (Below.refl _ _).alloc (Nat.le_refl _) _
  have hX := BoxA.new w (.string a.name) (.slice A1 n1 c1) (.slice A2 n2 c2) 64
  have hlt := hide (show ∀ j, has 2 (attrRows A1 n1 c1 A2 n2 c2 a) j → j < w.heap.size from fun j hj => (h.lt hj).2)
  have HB := hide (h.below hal)
  have hz := hide (And.intro z1 z2)
  have hb1 : n1 + n2 ≤ 2097152 := by omega
  clear h z1 z2
  obtain ⟨W, hW⟩ : ∃ W, W = w.alloc (.cells #[.string a.name, .slice A1 n1 c1, .slice A2 n2 c2] 64) := ⟨_, rfl⟩
  rw [← hW] at hX HB hal
  have HW := hide hW
  have hOW := hide (show Only (fun j => Value.ownBlock (.slice A1 n1 c1) = some j ∨ Value.ownBlock (.slice A2 n2 c2) = some j) w W from Only.of_below hal)
  clear hW
  go_enter Tryd.func75, Tryd.ntmps75
  have HO1 := hide (attr_own1 HB.out)
  obtain ⟨k0', k1', k2', -, -, -, k3'⟩ := id hX
  rw [HW.out] at k0' k1' k2' k3'
  go_wp2_with (fail)
  rw [← HW.out]
  clear k0' k1' k2' k3'
  refine (markIntS_any B A1 n1 c1 a.cuts _ _ HO1.out (by omega) (by omega) (by omega)).mono ?_
  rintro e w1 ⟨rfl, ho1, hg1⟩
  have HB1 := hide (attr_turn1 (l := marksI k0 n1) HB.out ho1 hg1 (fun g hg => .inl hg) a.name)
  have hX1 := hX.only (Only.of_grown (S := fun j => Value.ownBlock (.slice A1 n1 c1) = some j) hg1 fun k hk => hk) (fun e => by have := hlt.out _ ⟨0, by omega, e⟩; omega)
  have hOn1 := hide (hOW.out.trans (Only.of_grown (S := fun j => Value.ownBlock (.slice A1 n1 c1) = some j ∨ Value.ownBlock (.slice A2 n2 c2) = some j) hg1 fun k hk => .inl hk))
  have HO2 := hide (attr_own2 HB1.out)
  clear ho1 hg1 hX
  obtain ⟨k0', k1', k2', -, -, -, k3'⟩ := id hX1
  go_wp2_with (fail)
  refine (markStringS_any B A2 n2 c2 a.vals _ _ HO2.out (by omega) (by omega) (by omega)).mono ?_
  rintro e w2 ⟨rfl, ho2, hg2⟩
  have HB2 := hide (attr_turn2 (l := marksS (k0 + n1) n2) HB1.out ho2 hg2 (fun g hg => .inl hg) a.name)
  have hOn2 := hide (hOn1.out.trans (Only.of_grown (S := fun j => Value.ownBlock (.slice A1 n1 c1) = some j ∨ Value.ownBlock (.slice A2 n2 c2) = some j) hg2 fun k hk => .inr hk))
  clear ho2 hg2 k0' k1' k2' k3' hX1
  go_wp2
  go_ret
  refine ⟨ret_int (by rw [← hz.out.1, ← hz.out.2]), ?_, hOn2.out⟩
  have := HB2.out
  rw [markOneD, ← hz.out.1, ← hz.out.2]
  exact this
set_option maxHeartbeats 1000000 in
theorem heldAttr_any (A1 : Option Addr) (n1 c1 : Nat) (A2 : Option Addr) (n2 c2 : Nat) (a : AttrD) (k0 : Int) (w : World) (h : AttrM w A1 n1 c1 A2 n2 c2 (markOneD k0 a)) (h0 : 0 ≤ k0) (h1 : k0 ≤ 1048576) :
    Calls Tryd.prog 76 #[.agg #[.string a.name, .slice A1 n1 c1, .slice A2 n2 c2], .int .i64 k0] w fun e w' => e = .returned (.int .i64 (k0 + a.cuts.length + a.vals.length)) ∧ Below w.heap.size w w' := by
  have z1 : n1 = a.cuts.length := by have := h.cuts.1; rwa [markOneD, marksI_len] at this
  have z2 : n2 = a.vals.length := by have := h.vals.1; rwa [markOneD, marksS_len] at this
  have hn1 := h.b1
  have hn2 := h.b2
  have hal : Below w.heap.size w (w.alloc (.cells #[.string a.name, .slice A1 n1 c1, .slice A2 n2 c2] 64)) := (Below.refl _ _).alloc (Nat.le_refl _) _
  have hc : Ints w A1 n1 (marksI k0 n1) := by have := h.cuts; rwa [markOneD, ← z1] at this
  have hv : Strs w A2 n2 (marksS (k0 + n1) n2) := by have := h.vals; rwa [markOneD, ← z1, ← z2] at this
  have HC := hide (hc.keep hal)
  have HV := hide (hv.keep hal)
  have hz := hide (And.intro z1 z2)
  have hX := BoxA.new w (.string a.name) (.slice A1 n1 c1) (.slice A2 n2 c2) 64
  clear h z1 z2 hc hv
  go_enter Tryd.func76, Tryd.ntmps76
  obtain ⟨k0', k1', k2', -, -, -, k3'⟩ := id hX
  go_wp2_with (fail)
  refine (heldIntS_any A1 n1 c1 _ _ HC.out (by omega) (by omega) (by omega)).mono ?_
  rintro e w1 ⟨rfl, rfl⟩
  go_wp2_with (fail)
  refine (heldStringS_any A2 n2 c2 _ _ HV.out (by omega) (by omega) (by omega)).mono ?_
  rintro e w2 ⟨rfl, hb2⟩
  have hB := bthen hal hb2
  clear hb2 k0' k1' k2' k3' hX
  go_wp2
  go_ret
  exact ⟨ret_int (by rw [← hz.out.1, ← hz.out.2]), hB⟩
end Go.Proofs.YtohodehmidbmlaaDoor
namespace Go.Proofs.YtohodehmidbmlaaDoor
open Go.RowKit

def byteV (x : UInt8) : Value := .int .u8 (x.toNat : Int)
theorem byteV_eq (x : UInt8) : byteV x = .int .u8 (x.toNat : Int) := rfl

set_option maxHeartbeats 400000 in
theorem eqByteS_any (A B : Option Addr) (n m c d : Nat) (l r : List UInt8) (w : World) (hl : Bytes w A n l) (hr : Bytes w B m r) (hn : n ≤ 2097152) (hm : m ≤ 2097152) :
    Calls Tryd.prog 26 #[.slice A n c, .slice B m d] w fun e w' => e = .returned (.bool (decide (l = r))) ∧ ∃ q, w' = w.drewN q := by
  have HL := hide hl
  have HR := hide hr
  clear hl hr
  by_cases hnm : n = m
  · subst hnm
    go_enter Tryd.func26, Tryd.ntmps26
    go_wp2
    go_loopw [5] (fun i wr => ∃ k : Nat, k ≤ n ∧ i = .int .i64 k ∧ l.take k = r.take k ∧ ∃ q, wr = w.drewN q) (fun i _ => n - (intOf i).toNat)
    case atStart => exact ⟨0, Nat.zero_le _, rfl, by simp, 0, rfl⟩
    case round =>
      obtain ⟨k, hk, rfl, htk, q, rfl⟩ := hrel
      have HT := hide htk
      clear htk
      by_cases hlt : k < n
      · obtain ⟨a1, rfl, _, hc1⟩ := (HL.out).at_ hlt
        obtain ⟨a2, rfl, _, hc2⟩ := (HR.out).at_ hlt
        by_cases he : l[k]?.getD 0 = r[k]?.getD 0
        · have HS := hide (take_eq_step 0 (by have := HL.out.1; omega) (by have := HR.out.1; omega) HT.out he)
          have HE : ((((l[k]?.getD 0).toNat : Int)) == (((r[k]?.getD 0).toNat : Int))) = true := by rw [he]; exact beq_self_eq_true _
          have HE' : ((((l[k]?.getD 0).toNat : Int)) != (((r[k]?.getD 0).toNat : Int))) = false := by rw [he]; simp
          clear he
          go_wp2
          go_quiet (fail)
          go_wp2
          go_roundw
          case rel => exact ⟨k + 1, by omega, by go_num, HS.out, _, rfl⟩
          case measure => simp [intOf]; omega
        · have HS := hide (take_ne_step 0 he)
          have HE' : ((((l[k]?.getD 0).toNat : Int)) != (((r[k]?.getD 0).toNat : Int))) = true := by rw [bne_iff_ne]; intro h; exact he (UInt8.toNat_inj.1 (by omega))
          clear he
          go_wp2
          go_quiet (fail)
          go_wp2
          go_ret
          exact ⟨ret_bool (by simp [HS.out]), _, World.drewN_drewN _ _ _⟩
      · have HS := hide (show l = r by
          have h := HT.out
          rwa [List.take_of_length_le (by have := HL.out.1; omega), List.take_of_length_le (by have := HR.out.1; omega)] at h)
        go_wp2
        go_ret
        exact ⟨ret_bool (by simp [HS.out]), _, rfl⟩
  · have HS := hide (show ¬ l = r by
      rintro rfl
      exact hnm (by have := HL.out.1; have := HR.out.1; omega))
    have hne : ((n : Int) != (m : Int)) = true := by rw [bne_iff_ne]; omega
    clear hnm
    go_enter Tryd.func26, Tryd.ntmps26
    go_wp2
    go_ret
    exact ⟨ret_bool (by simp [HS.out]), 0, rfl⟩

theorem infoB : (Tryd.prog.info? 5).map (fun i => (i.zero, i.size, i.bytes)) = some (some (.int .u8 0), 1, 1) := by kernel_rfl

/-- A slice value that owns the integers l, in a block from B on. -/
abbrev OwnB (B : Nat) (w : World) (v : Value) (l : List UInt8) : Prop := w.ownsRow B 5 1 v l.length (l.map byteV)

theorem OwnB.ints {B : Nat} {w : World} {A : Option Addr} {n c : Nat} {l : List UInt8} (h : OwnB B w (.slice A n c) l) : Bytes w A n l := by
  obtain ⟨h1, h2⟩ := h
  rcases h2 with ⟨hv, hn⟩ | ⟨g, cap, cur, hv, hb, hg, hnc, hcm, hcs, ht⟩
  · injection hv with h3 h4 h5
    exact ⟨by omega, fun h => absurd h (by omega)⟩
  · injection hv with h3 h4 h5
    subst h3 h4 h5
    refine ⟨rfl, fun hn => ⟨_, rfl, (Array.getElem?_eq_some_iff.1 hg).1, fun i hi => ⟨[.int .u8 l[i].toNat], rfl, rfl, fun j u hu => ?_⟩⟩⟩
    have hj : j = 0 := by
      rcases j with _ | j
      · rfl
      · simp at hu
    subst hj
    simp only [List.getElem?_cons_zero, Option.some.injEq] at hu
    subst hu
    have := World.ownsRow.cells (v := .slice (some ⟨g, 0, none⟩) l.length c) ⟨h1, .inr ⟨g, c, cur, rfl, hb, hg, hnc, hcm, hcs, ht⟩⟩ (g := g) rfl i (.int .u8 l[i].toNat) (by simp [hi, byteV])
    simpa using this

theorem getD_map_byte {l : List UInt8} {k : Nat} (h : k < l.length) : (l.map byteV)[k]? = some (.int .u8 (l[k]?.getD 0).toNat) := by
  rw [List.getElem?_map, List.getElem?_eq_getElem h]; rfl
theorem bytes_of {B : Nat} {w : World} {A : Option Addr} {n c : Nat} {l : List UInt8} (h : w.ownsRow B 5 1 (.slice A n c) n (l.map byteV)) : Bytes w A n l := by
  have hn : n = l.length := by simpa using h.1.symm
  subst hn
  exact OwnB.ints h
theorem eqByteS_b (A B : Option Addr) (n m c d : Nat) (l r : List UInt8) (w : World) (hl : Bytes w A n l) (hr : Bytes w B m r) (hn : n ≤ 2097152) (hm : m ≤ 2097152) :
    Calls Tryd.prog 26 #[.slice A n c, .slice B m d] w fun e w' => e = .returned (.bool (decide (l = r))) ∧ Below w.heap.size w w' :=
  (eqByteS_any A B n m c d l r w hl hr hn hm).mono fun _ _ ⟨he, q, hw⟩ => ⟨he, by subst hw; exact below_drewN (Below.refl _ _) _⟩

set_option maxHeartbeats 400000 in
theorem toByteS_any (A : Option Addr) (n c : Nat) (l : List UInt8) (w : World) (hl : Bytes w A n l) (hn : n ≤ 2097152) :
    Calls Tryd.prog 22 #[.slice A n c] w fun e w' => ∃ D m, e = .returned (.slice D n m) ∧ OwnB w.heap.size w' (.slice D n m) l ∧ Below w.heap.size w w' := by
  have HL := hide hl
  have hlen : l.length ≤ n := by rw [hl.1]; exact Nat.le_refl _
  have hlen' : n ≤ l.length := by rw [hl.1]; exact Nat.le_refl _
  clear hl
  obtain ⟨i0, hi0, hz0, hz1, hz2⟩ := info_parts infoB
  go_enter Tryd.func22, Tryd.ntmps22
  go_wp2_with (at_make; refine wpList_make_full _ rfl _ _ 26 rfl w.heap.size 5 i0 (.int .u8 0) 1 Tryd.underlying26 hi0 hz0 hz1 _ _ _ _ n rfl rfl rfl rfl (by rw [hz2]; omega) (by unfold maxLen; omega) (Nat.le_refl _) ?_; intro w1 hown1 hg1)
  have hown : w1.ownsRow w.heap.size 5 1 (.slice (some ⟨w.heap.size, 0, none⟩) n n) n (fillTo (l.map byteV) (.int .u8 0) 0) := by
    have h := hown1
    simp only [Value.cells, Nat.mul_one] at h
    rw [toList_madeCells_one] at h
    rw [fillTo_zero, List.length_map, show l.length = n by omega]
    exact h
  have hb1 : Below w.heap.size w w1 := (Below.refl _ _).grown hg1 (Nat.le_refl _) (by simp)
  clear hown1 hg1 hi0 hz0 hz1 hz2
  go_loopw [4] (fun i wr => ∃ k : Nat, k ≤ n ∧ i = .int .i64 k ∧ wr.ownsRow w.heap.size 5 1 (.slice (some ⟨w.heap.size, 0, none⟩) n n) n (fillTo (l.map byteV) (.int .u8 0) k) ∧ Below w.heap.size w wr) (fun i _ => n - (intOf i).toNat)
  case atStart => exact ⟨0, Nat.zero_le _, rfl, hown, hb1⟩
  case round =>
    clear hown hb1
    obtain ⟨k, hk, rfl, hown, hbel⟩ := hrel
    by_cases hlt : k < n
    · obtain ⟨ad, rfl, hbk, hcell⟩ := (HL.out).at_ hlt
      have hc1 := (hbel.cell (p := ad.add k) (by rw [block_of_add]; exact hbk)).trans hcell
      have hc2 := (hown.cellAt k (by omega)).trans (fillTo_get (by simp; omega))
      have hf2 := hown.frozenAt k
      have hst := (hown.stored k (.int .u8 (l[k]?.getD 0).toNat)).1
      rw [fillTo_set (by simp; omega) (getD_map_byte (by omega))] at hst
      have hb2 := hbel.setCell (p := ⟨w.heap.size, k, none⟩) (Nat.le_refl _) (.int .u8 (l[k]?.getD 0).toNat)
      go_wp2
      go_roundw
      case rel => exact ⟨k + 1, by omega, by go_num, hst, hb2⟩
      case measure => simp [intOf]; omega
    · rw [fillTo_all (by simp; omega)] at hown
      go_wp2
      go_ret
      refine ⟨_, _, rfl, ?_, hbel⟩
      show World.ownsRow _ _ _ _ _ _ _
      rw [show l.length = n by omega]
      exact hown

/-- The marks of bytes. -/
def marksB (k : Int) (n : Nat) : List UInt8 := (List.range n).map fun i => UInt8.ofNat ((k + (i : Nat)).toNat % 256)
theorem marksB_len (k : Int) (n : Nat) : (marksB k n).length = n := by simp [marksB]
theorem marksB_get (k : Int) (h0 : 0 ≤ k) {n i : Nat} (h : i < n) : (((marksB k n)[i]?.getD 0).toNat : Int) = (k + i) % 256 := by
  simp [marksB, h]; omega

set_option maxHeartbeats 400000 in
theorem markByteS_any (B : Nat) (A : Option Addr) (n c : Nat) (l : List UInt8) (k0 : Int) (w : World) (hl : w.ownsRow B 5 1 (.slice A n c) n (l.map byteV))
    (hn : n ≤ 2097152) (h0 : 0 ≤ k0) (h1 : k0 ≤ 1099511627776) :
    Calls Tryd.prog 28 #[.slice A n c, .int .i64 k0] w fun e w' => e = .returned (.int .i64 (k0 + n)) ∧
      w'.ownsRow B 5 1 (.slice A n c) n ((marksB k0 n).map byteV) ∧ w.grownBy w' (Value.ownBlock (.slice A n c)) := by
  have hlen : l.length = n := by simpa using hl.1
  have HX := hide hlen
  clear hlen
  go_enter Tryd.func28, Tryd.ntmps28
  go_wp2
  go_loopw [1, 5] (fun v i wr => ∃ k : Nat, k ≤ n ∧ i = .int .i64 k ∧ v = .int .i64 (k0 + k) ∧ wr.ownsRow B 5 1 (.slice A n c) n (mixTo (l.map byteV) ((marksB k0 n).map byteV) k) ∧ w.grownBy wr (Value.ownBlock (.slice A n c))) (fun _ i _ => n - (intOf i).toNat)
  case atStart => exact ⟨0, Nat.zero_le _, rfl, by simp, by rw [mixTo_zero]; exact hl, World.grownBy.refl _ _⟩
  case round =>
    clear hl
    obtain ⟨k, hk, rfl, rfl, hown, hgr⟩ := hrel
    by_cases hlt : k < n
    · obtain ⟨g, rfl, hbk, hgl⟩ := own_form hown (by omega)
      have hc2 := hown.cellAt k (by omega)
      rw [mixTo_get (by simp [marksB_len]; omega), getD_map_byte (by have := HX.out; omega)] at hc2
      have hf2 := hown.frozenAt k
      have hst := hown.stored k (.int .u8 ((k0 + k) % 256))
      rw [mixTo_set (by simp; have := HX.out; omega) (by simp [marksB_len]; omega) (by rw [getD_map_byte (by rw [marksB_len]; omega), marksB_get k0 h0 hlt])] at hst
      have hst1 := hst.1
      have hst2 := only_trans hgr hst.2
      clear hst
      go_wp2
      go_roundw
      case rel => exact ⟨k + 1, by omega, by go_num, by go_num, hst1, hst2⟩
      case measure => simp [intOf]; omega
    · obtain rfl : k = n := by omega
      rw [mixTo_all (by simp [marksB_len]) (by simp; have := HX.out; omega)] at hown
      go_wp2
      go_ret
      exact ⟨rfl, hown, hgr⟩

end Go.Proofs.YtohodehmidbmlaaDoor
namespace Go.Proofs.YtohodehmidbmlaaDoor
open Go.RowKit

theorem box2_only {S : Nat → Prop} {w w' : World} {b : Nat} {x y : Value} (h : Box2 w b x y) (ho : Only S w w') (hb : ¬ S b) : Box2 w' b x y :=
  ⟨(ho.cell (p := ⟨b, 0, none⟩) hb h.lt).trans h.c0, (ho.cell (p := ⟨b, 1, none⟩) hb h.lt).trans h.c1, Nat.lt_of_lt_of_le h.lt ho.size⟩
/-- A row that was read. -/
def ReadR (E : ExD) (a b : Int) (w : World) (e : Ending) (w' : World) : Prop := ∃ x0 x1, e = .returned (.tuple #[.agg #[x0, x1], .int .i64 a, .int .i64 b]) ∧ ExO w.heap.size w'.heap.size w' x0 x1 E ∧ Below w.heap.size w w'
set_option maxRecDepth 100000 in
set_option maxHeartbeats 4000000 in
theorem fnExactRowOf_walk (w : World) (x00 x01 : Value) (d0 : SchemaD) (h0 : SchemaI w x00 x01 d0) (Q : Option Addr) (n c : Nat) (l : List UInt8) (hl : n ≤ maxLen) (hr : Bytes w Q n l) (hd : DoorW w) :
    Calls Tryd.prog 3 #[.agg #[x00, x01], .slice Q n c] w fun e w' => e = .returned (.bool true) ∧ Below w.heap.size w w' := by
  unfold maxLen at hl
  have hX := Box2.new w x00 x01 25
  have hB : Below w.heap.size w (w.alloc (.cells #[x00, x01] 25)) := (Below.refl _ _).alloc (Nat.le_refl _) _
  have HNL := hide hr.1
  have HI0 := hide h0
  have HQ := hide hr
  have HD := hide hd
  clear h0 hr hd
  by_cases hn : 1048576 < n
  · go_enter Tryd.func3, Tryd.ntmps3
    go_wp2
    go_ret
    exact ⟨rfl, hB⟩
  obtain ⟨E, hE⟩ : ∃ E, E = (rowOf d0 ⟨l.toArray⟩).1 := ⟨_, rfl⟩
  obtain ⟨a, ha⟩ : ∃ a, a = (rowOf d0 ⟨l.toArray⟩).2.1 := ⟨_, rfl⟩
  obtain ⟨b, hb'⟩ : ∃ b, b = (rowOf d0 ⟨l.toArray⟩).2.2 := ⟨_, rfl⟩
  have hS := hide (show ∀ (W : World) (y0 y1 : Value) (D : Option Addr) (m : Nat), SchemaM W y0 y1 d0 → Bytes W D n l → Calls Tryd.prog 20 #[.agg #[y0, y1], .slice D n m] W (ReadR E a b W) from fun W y0 y1 D m h1 h2 => by
    have := specRowOf_any y0 y1 d0 D n m l W h1 h2 (by omega)
    unfold RowPost at this
    rw [← hE, ← ha, ← hb'] at this
    exact this)
  have hI := hide (show ∀ (W : World) (y0 y1 : Value) (D : Option Addr) (m : Nat), SchemaM W y0 y1 d0 → Bytes W D n l → DoorW W → Calls Tryd.prog 23 #[.agg #[y0, y1], .slice D n m] W (ReadR E a b W) from fun W y0 y1 D m h1 h2 h3 => by
    have := implRowOf_any y0 y1 d0 D n m l W h1 h2 (by omega) h3
    unfold RowPost at this
    rw [← hE, ← ha, ← hb'] at this
    exact this)
  clear hE ha hb'
  have q01 : (a != a) = false := by simp
  have q02 : (b != b) = false := by simp
  have q03 : (a == a) = true := by simp
  have q04 : (b == b) = true := by simp
  go_enter Tryd.func3, Tryd.ntmps3
  obtain ⟨k00, k01, k02⟩ := id hX
  go_wp2_with (fail)
  refine (szSchema_any x00 x01 d0 _ _ (HI0.out.keep hB) (by omega) (by omega)).mono ?_
  rintro e s0 ⟨r0, rfl, hr, hb⟩
  clear k00 k01 k02
  replace hB := bthen hB hb
  replace hX := hX.keep hb
  clear hb
  rcases hr with rfl | ⟨hr0, hr1⟩
  · go_wp2
    go_ret
    exact ⟨rfl, hB⟩
  have HM0 := hide (HI0.out.small (by omega))
  have hw0 := hide (show wSchema d0 ≤ 1048576 by omega)
  clear hr1
  obtain ⟨k00, k01, k02⟩ := id hX
  go_wp2_with (fail)
  refine (toSchema_any x00 x01 d0 _ (HM0.out.keep hB)).mono ?_
  rintro e t0 ⟨y0, y1, rfl, hm, hb⟩
  clear k00 k01 k02
  replace hB := bthen hB hb
  replace hX := hX.keep hb
  clear hb
  have HY := hide hm
  clear hm
  go_wp2_with (fail)
  refine (toByteS_any Q n c l _ (HQ.out.keep hB) (by omega)).mono ?_
  rintro e t1 ⟨D1, m1, rfl, ho, hb⟩
  replace hB := bthen hB hb
  replace hX := hX.keep hb
  replace HY := hide (HY.out.keep hb)
  clear hb
  have HO1 := hide (OwnB.ints ho)
  clear ho
  go_wp2_with (fail)
  refine (hS.out _ _ _ _ _ HY.out HO1.out).mono ?_
  rintro e t2 ⟨z0, z1, rfl, hz, hb⟩
  replace hB := bthen hB hb
  replace hX := hX.keep hb
  clear hb
  clear HY HO1
  obtain ⟨g0_, g1_⟩ := hz.one
  have st0 := fun (W : World) (a : Addr) (m : Mode) => run_store_of (P := Tryd.prog) W a m g0_
  have st1 := fun (W : World) (a : Addr) (m : Mode) => run_store_of (P := Tryd.prog) W a m g1_
  clear g0_ g1_
  have HZ := hide hz.m
  clear hz
  have hC : Below t2.heap.size t2 t2 := Below.refl _ _
  have hal : Below t2.heap.size t2 (t2.alloc (.cells #[z0, z1] 30)) := (Below.refl _ _).alloc (Nat.le_refl _) _
  have hY := Box2.new t2 z0 z1 30
  replace hB := bthen hB hal
  replace hC := bthen hC hal
  replace hX := hX.keep hal
  clear hal
  have q1 : w.heap.size < t2.heap.size + 1 := by have := hX.lt; simp at this; omega
  obtain ⟨k00, k01, k02⟩ := id hX
  go_wp2_with (fail)
  refine (toSchema_own x00 x01 d0 _ (HM0.out.keep hB)).mono ?_
  rintro e u0 ⟨p0, p1, rfl, hp, hb⟩
  clear st0 st1
  clear k00 k01 k02
  have q3 : t2.heap.size + 1 ≤ u0.heap.size := by have := hb.size; simpa using this
  replace hB := bthen hB hb
  replace hC := bthen hC hb
  replace hX := hX.keep hb
  replace hY := hY.keep hb
  clear hb
  obtain ⟨g0_, g1_⟩ := hp.m.one
  have st0 := fun (W : World) (a : Addr) (m : Mode) => run_store_of (P := Tryd.prog) W a m g0_
  have st1 := fun (W : World) (a : Addr) (m : Mode) => run_store_of (P := Tryd.prog) W a m g1_
  clear g0_ g1_
  have hp2 : SchemaO (t2.heap.size + 1) u0.heap.size u0 p0 p1 d0 := by simpa using hp
  have HXO := hide hp2
  clear hp2
  clear hp
  have hal : Below u0.heap.size u0 (u0.alloc (.cells #[p0, p1] 35)) := (Below.refl _ _).alloc (Nat.le_refl _) _
  have hZ := Box2.new u0 p0 p1 35
  replace hB := bthen hB hal
  replace hC := bthen hC hal
  replace hX := hX.keep hal
  replace hY := hY.keep hal
  replace HXO := hide (HXO.out.below hal)
  clear hal
  go_wp2_with (fail)
  refine (toByteS_any Q n c l _ (HQ.out.keep hB) (by omega)).mono ?_
  rintro e u1 ⟨D2, m2, rfl, ho, hb⟩
  clear st0 st1
  have q4 : u0.heap.size + 1 ≤ u1.heap.size := by have := hb.size; simpa using this
  have hbk := hide (show ∀ j, Value.ownBlock (.slice D2 n m2) = some j → u0.heap.size + 1 ≤ j ∧ j < u1.heap.size from fun j hj => by have := ho.lt j hj; simpa using this)
  have hoB : OwnB (u0.heap.size + 1) u1 (.slice D2 n m2) l := by simpa using ho
  replace hB := bthen hB hb
  replace hC := bthen hC hb
  replace hX := hX.keep hb
  replace hY := hY.keep hb
  replace hZ := hZ.keep hb
  replace HXO := hide (HXO.out.below hb)
  clear hb
  have HO2 := hide hoB
  clear ho hoB
  obtain ⟨k00, k01, k02⟩ := id hZ
  go_wp2_with (fail)
  refine (hI.out _ _ _ _ _ HXO.out.m (OwnB.ints HO2.out) (HD.out.keep hB)).mono ?_
  rintro e v0 ⟨g0, g1, rfl, hg, hb⟩
  clear k00 k01 k02
  have q5 : u1.heap.size ≤ v0.heap.size := hb.size
  replace hB := bthen hB hb
  replace hC := bthen hC hb
  replace hX := hX.keep hb
  replace hY := hY.keep hb
  replace hZ := hZ.keep hb
  replace HXO := hide (HXO.out.below hb)
  replace HO2 := hide (own_below HO2.out hb)
  clear hb
  obtain ⟨g0_, g1_⟩ := hg.one
  have st0 := fun (W : World) (a : Addr) (m : Mode) => run_store_of (P := Tryd.prog) W a m g0_
  have st1 := fun (W : World) (a : Addr) (m : Mode) => run_store_of (P := Tryd.prog) W a m g1_
  clear g0_ g1_
  have HGO := hide hg
  clear hg
  have hal : Below v0.heap.size v0 (v0.alloc (.cells #[g0, g1] 30)) := (Below.refl _ _).alloc (Nat.le_refl _) _
  have hG := Box2.new v0 g0 g1 30
  replace hB := bthen hB hal
  replace hC := bthen hC hal
  replace hX := hX.keep hal
  replace hY := hY.keep hal
  replace hZ := hZ.keep hal
  replace HXO := hide (HXO.out.below hal)
  replace HO2 := hide (own_below HO2.out hal)
  replace HGO := hide (HGO.out.below hal)
  clear hal
  obtain ⟨k00, k01, k02⟩ := id hG
  obtain ⟨k10, k11, k12⟩ := id hY
  go_wp2_with (fail)
  refine (eqEx_any _ _ _ _ E _ HGO.out.m (HZ.out.keep hC)).mono ?_
  rintro e c1 ⟨rfl, hb⟩
  clear st0 st1
  clear k00 k01 k02 k10 k11 k12
  replace hB := bthen hB hb
  replace hC := bthen hC hb
  replace hX := hX.keep hb
  replace hY := hY.keep hb
  replace hZ := hZ.keep hb
  replace hG := hG.keep hb
  replace HXO := hide (HXO.out.below hb)
  replace HO2 := hide (own_below HO2.out hb)
  replace HGO := hide (HGO.out.below hb)
  clear hb
  obtain ⟨k00, k01, k02⟩ := id hZ
  obtain ⟨k10, k11, k12⟩ := id hX
  go_wp2
  clear k00 k01 k02 k10 k11 k12
  have HS := Held22.of hZ hX (Below.refl _ c1)
  unfold Held22 at HS
  go_region_held3 (fun W => W.cell? ⟨u0.heap.size, 0, none⟩ = some p0 ∧ W.cell? ⟨u0.heap.size, 1, none⟩ = some p1 ∧ W.cell? ⟨w.heap.size, 0, none⟩ = some x00 ∧ W.cell? ⟨w.heap.size, 1, none⟩ = some x01 ∧ u0.heap.size < W.heap.size ∧ w.heap.size < W.heap.size ∧ Below c1.heap.size c1 W) (first | assumption | exact Held22.keep (by assumption) (by assumption) | exact Held22.drew (by assumption)) (first | (go_at_call 21; refine (toSchema_any x00 x01 d0 _ (HM0.out.keep (bthen hB (Held22.below (by assumption))))).mono ?_; rintro e o0 ⟨y0, y1, rfl, hm, hb⟩) | (go_at_call 25; refine (eqSchema_any _ _ _ _ d0 _ (HXO.out.m.keep (Held22.below (by assumption))) (by assumption)).mono ?_; rintro e c2 ⟨rfl, hb2⟩))
  have hH : Held22 c1 u0.heap.size w.heap.size p0 p1 x00 x01 c2 := by assumption
  replace hH := hH.below
  clear HS
  replace hB := bthen hB hH
  replace hC := bthen hC hH
  replace hX := hX.keep hH
  replace hY := hY.keep hH
  replace hZ := hZ.keep hH
  replace hG := hG.keep hH
  replace HXO := hide (HXO.out.below hH)
  replace HO2 := hide (own_below HO2.out hH)
  replace HGO := hide (HGO.out.below hH)
  clear hH
  go_wp2_with (fail)
  refine (toByteS_any Q n c l _ (HQ.out.keep hB) (by omega)).mono ?_
  rintro e c3 ⟨D3, m3, rfl, ho, hb⟩
  replace hB := bthen hB hb
  replace hC := bthen hC hb
  replace hX := hX.keep hb
  replace hY := hY.keep hb
  replace hZ := hZ.keep hb
  replace hG := hG.keep hb
  replace HXO := hide (HXO.out.below hb)
  replace HO2 := hide (own_below HO2.out hb)
  replace HGO := hide (HGO.out.below hb)
  clear hb
  have HO3 := hide (OwnB.ints ho)
  clear ho
  go_wp2_with (fail)
  refine (eqByteS_b _ _ _ _ _ _ l l _ (OwnB.ints HO2.out) HO3.out (by omega) (by omega)).mono ?_
  rintro e c4 ⟨rfl, hb⟩
  clear HO3
  simp only [decide_true]
  replace hB := bthen hB hb
  replace hC := bthen hC hb
  replace hX := hX.keep hb
  replace hY := hY.keep hb
  replace hZ := hZ.keep hb
  replace hG := hG.keep hb
  replace HXO := hide (HXO.out.below hb)
  replace HO2 := hide (own_below HO2.out hb)
  replace HGO := hide (HGO.out.below hb)
  clear hb
  obtain ⟨k00, k01, k02⟩ := id hZ
  go_wp2_with (fail)
  refine (markSchema_any _ _ _ _ d0 _ _ HXO.out (Nat.le_trans (cntSchema_le d0) hw0.out) (by omega) (by omega)).mono ?_
  rintro e c5 ⟨rfl, -, ho⟩
  clear k00 k01 k02
  have hcs := Nat.le_trans (cntSchema_le d0) hw0.out
  replace hB := Only.below hB hB.size ho (fun k hk => by omega)
  replace hC := Only.below hC hC.size ho (fun k hk => by omega)
  replace hX := box2_only hX ho (by omega)
  replace hY := box2_only hY ho (by omega)
  replace hG := box2_only hG ho (by omega)
  replace HGO := hide (HGO.out.only ho (fun k hk => by omega))
  have HO4 := hide (own_only HO2.out ho (fun j hj e => by have := hbk.out j hj; omega))
  clear ho hZ HXO HO2
  go_wp2_with (fail)
  refine (markByteS_any _ D2 n m2 l _ _ (by have := HO4.out; unfold OwnB at this; rw [← HNL.out] at this; exact this) (by omega) (by omega) (by omega)).mono ?_
  rintro e c6 ⟨rfl, -, hg6⟩
  have ho := Only.of_grown (S := fun j => u0.heap.size + 1 ≤ j ∧ j < u1.heap.size) hg6 fun k hk => hbk.out k hk
  replace hB := Only.below hB hB.size ho (fun k hk => by omega)
  replace hC := Only.below hC hC.size ho (fun k hk => by omega)
  replace hX := box2_only hX ho (by omega)
  replace hY := box2_only hY ho (by omega)
  replace hG := box2_only hG ho (by omega)
  replace HGO := hide (HGO.out.only ho (fun k hk => by omega))
  clear ho hg6 HO4
  obtain ⟨k00, k01, k02⟩ := id hG
  obtain ⟨k10, k11, k12⟩ := id hY
  go_wp2_with (fail)
  refine (eqEx_any _ _ _ _ E _ HGO.out.m (HZ.out.keep hC)).mono ?_
  rintro e c7 ⟨rfl, hb⟩
  clear k00 k01 k02 k10 k11 k12
  replace hB := bthen hB hb
  replace hC := bthen hC hb
  replace hX := hX.keep hb
  replace hY := hY.keep hb
  replace hG := hG.keep hb
  replace HGO := hide (HGO.out.below hb)
  clear hb
  have hcn := hide (show E.bins.length ≤ 1048576 from by obtain ⟨A9, n9, c9, -, -, h9, h10, -⟩ := HGO.out; have := (ints_of h9).1; omega)
  obtain ⟨k00, k01, k02⟩ := id hG
  go_wp2_with (fail)
  refine (markEx_any _ _ _ _ E _ _ HGO.out (by omega) (by omega)).mono ?_
  rintro e c8 ⟨rfl, hgo, ho⟩
  clear k00 k01 k02
  replace hB := Only.below hB hB.size ho (fun k hk => by omega)
  replace hC := Only.below hC hC.size ho (fun k hk => by omega)
  replace hX := box2_only hX ho (by omega)
  replace hY := box2_only hY ho (by omega)
  replace hG := box2_only hG ho (by omega)
  have HGM := hide hgo
  clear ho hgo HGO
  obtain ⟨k00, k01, k02⟩ := id hG
  go_wp2_with (fail)
  refine (heldEx_any _ _ E _ _ HGM.out.m (by omega) (by omega)).mono ?_
  rintro e c9 ⟨rfl, hb⟩
  clear k00 k01 k02
  replace hB := bthen hB hb
  replace hC := bthen hC hb
  replace hX := hX.keep hb
  replace hY := hY.keep hb
  replace hG := hG.keep hb
  replace HGM := hide (HGM.out.below hb)
  clear hb
  obtain ⟨k00, k01, k02⟩ := id hX
  go_wp2_with (fail)
  refine (toSchema_any x00 x01 d0 _ (HM0.out.keep hB)).mono ?_
  rintro e i0 ⟨y0, y1, rfl, hm, hb⟩
  clear k00 k01 k02
  replace hB := bthen hB hb
  replace hC := bthen hC hb
  replace hX := hX.keep hb
  replace hY := hY.keep hb
  replace hG := hG.keep hb
  replace HGM := hide (HGM.out.below hb)
  clear hb
  have HY := hide hm
  clear hm
  go_wp2_with (fail)
  refine (toByteS_any Q n c l _ (HQ.out.keep hB) (by omega)).mono ?_
  rintro e i1 ⟨D4, m4, rfl, ho, hb⟩
  replace hB := bthen hB hb
  replace hC := bthen hC hb
  replace hX := hX.keep hb
  replace hY := hY.keep hb
  replace hG := hG.keep hb
  replace HGM := hide (HGM.out.below hb)
  replace HY := hide (HY.out.keep hb)
  clear hb
  have HO5 := hide (OwnB.ints ho)
  clear ho
  go_wp2_with (fail)
  refine (hI.out _ _ _ _ _ HY.out HO5.out (HD.out.keep hB)).mono ?_
  rintro e i2 ⟨h0, h1, rfl, hh, hb⟩
  replace hB := bthen hB hb
  replace hC := bthen hC hb
  replace hX := hX.keep hb
  replace hY := hY.keep hb
  replace hG := hG.keep hb
  replace HGM := hide (HGM.out.below hb)
  clear hb
  clear HY HO5
  obtain ⟨g0_, g1_⟩ := hh.one
  have st0 := fun (W : World) (a : Addr) (m : Mode) => run_store_of (P := Tryd.prog) W a m g0_
  have st1 := fun (W : World) (a : Addr) (m : Mode) => run_store_of (P := Tryd.prog) W a m g1_
  clear g0_ g1_
  have hal : Below i2.heap.size i2 (i2.alloc (.cells #[h0, h1] 30)) := (Below.refl _ _).alloc (Nat.le_refl _) _
  have hJ := Box2.new i2 h0 h1 30
  have HH := hide (hh.m.keep hal)
  clear hh
  replace hB := bthen hB hal
  replace hC := bthen hC hal
  replace hX := hX.keep hal
  replace hY := hY.keep hal
  replace hG := hG.keep hal
  replace HGM := hide (HGM.out.below hal)
  clear hal
  obtain ⟨k00, k01, k02⟩ := id hJ
  obtain ⟨k10, k11, k12⟩ := id hY
  go_wp2_with (fail)
  refine (eqEx_any _ _ _ _ E _ HH.out (HZ.out.keep hC)).mono ?_
  rintro e i3 ⟨rfl, hb⟩
  clear st0 st1 HH
  clear k00 k01 k02 k10 k11 k12
  replace hB := bthen hB hb
  replace hC := bthen hC hb
  replace hX := hX.keep hb
  replace hY := hY.keep hb
  replace hG := hG.keep hb
  replace HGM := hide (HGM.out.below hb)
  clear hb
  obtain ⟨k00, k01, k02⟩ := id hG
  go_wp2_with (fail)
  refine (heldEx_any _ _ E _ _ HGM.out.m (by omega) (by omega)).mono ?_
  rintro e i4 ⟨rfl, hb⟩
  clear k00 k01 k02
  replace hB := bthen hB hb
  replace hC := bthen hC hb
  replace hX := hX.keep hb
  replace hY := hY.keep hb
  replace hG := hG.keep hb
  replace HGM := hide (HGM.out.below hb)
  clear hb
  go_wp2
  go_ret
  exact ⟨rfl, hB⟩
end Go.Proofs.YtohodehmidbmlaaDoor
namespace Go.Proofs.YtohodehmidbmlaaDoor
set_option maxRecDepth 100000

theorem words_cons (c : Char) (hc : c ≠ Char.ofNat 32) (r : List Char) (w : List Char) (ws : List (List Char)) (h : wordsSigns r = w :: ws) : wordsSigns (c :: r) = (c :: w) :: ws := by
  unfold wordsSigns
  split
  · rename_i e; simp at e
  · rename_i r e
    simp only [List.cons.injEq] at e
    exact absurd e.1 hc
  · rename_i c r _ e
    simp only [List.cons.injEq] at e
    obtain ⟨rfl, rfl⟩ := e
    rw [h]
theorem words_behind : ∀ (h : List Nat) (t : List Nat), (∀ x ∈ h, Char.ofNat x ≠ Char.ofNat 32) → wordsSigns ((h ++ 32 :: t).map Char.ofNat) = h.map Char.ofNat :: wordsSigns (t.map Char.ofNat)
  | [], t, _ => rfl
  | x :: h, t, hx => words_cons _ (hx x (by simp)) _ _ _ (words_behind h t fun y hy => hx y (by simp [hy]))

def headA : List Nat := [104, 97, 114, 110, 101, 115, 115]
def headB : List Nat := [98, 48, 102, 101, 55, 101, 55, 55, 100, 50, 102, 98, 56, 102, 50, 49, 55, 53, 56, 55, 99, 97, 50, 100, 97, 98, 101, 102, 100, 98, 100, 52, 55, 101, 54, 99, 56, 52, 55, 100, 101, 97, 56, 54, 98, 97, 99, 51, 53, 57, 57, 56, 98, 100, 56, 99, 54, 52, 51, 54, 99, 99, 98, 101]
def headC : List Nat := [99, 117, 116]
def headR : List Nat := [97, 116, 32, 108, 111, 111, 112, 46, 101, 120, 97, 109, 112, 108, 101, 47, 103, 48, 48, 52, 55, 55, 47, 108, 97, 119, 115, 46, 70, 110, 69, 120, 97, 99, 116, 82, 111, 119, 79, 102, 32, 108, 111, 111, 112, 46, 101, 120, 97, 109, 112, 108, 101, 47, 103, 48, 48, 52, 55, 55, 47, 108, 97, 119, 115, 46, 70, 110, 83, 99, 104, 101, 109, 97, 82, 101, 97, 100, 32, 108, 111, 111, 112, 46, 101, 120, 97, 109, 112, 108, 101, 47, 103, 48, 48, 52, 55, 55, 47, 108, 97, 119, 115, 46, 70, 110, 69, 120, 97, 99, 116, 83, 99, 104, 101, 109, 97, 79, 102, 32, 108, 111, 111, 112, 46, 101, 120, 97, 109, 112, 108, 101, 47, 103, 48, 48, 52, 55, 55, 47, 108, 97, 119, 115, 46, 70, 110, 69, 120, 97, 99, 116, 68, 105, 103, 105, 116, 115, 32, 108, 111, 111, 112, 46, 101, 120, 97, 109, 112, 108, 101, 47, 103, 48, 48, 52, 55, 55, 47, 108, 97, 119, 115, 46, 70, 110, 69, 120, 97, 99, 116, 70, 114, 97, 99, 84, 101, 120, 116, 32, 108, 111, 111, 112, 46, 101, 120, 97, 109, 112, 108, 101, 47, 103, 48, 48, 52, 55, 55, 47, 108, 97, 119, 115, 46, 70, 110, 69, 120, 97, 99, 116, 67, 101, 108, 108, 84, 101, 120, 116, 32, 108, 111, 111, 112, 46, 101, 120, 97, 109, 112, 108, 101, 47, 103, 48, 48, 52, 55, 55, 47, 108, 97, 119, 115, 46, 70, 110, 69, 120, 97, 99, 116, 78, 117, 109, 98, 101, 114, 32, 108, 111, 111, 112, 46, 101, 120, 97, 109, 112, 108, 101, 47, 103, 48, 48, 52, 55, 55, 47, 108, 97, 119, 115, 46, 70, 110, 69, 120, 97, 99, 116, 65, 116, 116, 114, 84, 101, 120, 116, 32, 108, 111, 111, 112, 46, 101, 120, 97, 109, 112, 108, 101, 47, 103, 48, 48, 52, 55, 55, 47, 108, 97, 119, 115, 46, 70, 110, 69, 120, 97, 99, 116, 83, 105, 103, 110, 101, 100, 32, 108, 111, 111, 112, 46, 101, 120, 97, 109, 112, 108, 101, 47, 103, 48, 48, 52, 55, 55, 47, 108, 97, 119, 115, 46, 70, 110, 78, 117, 109, 98, 101, 114, 115, 32, 108, 111, 111, 112, 46, 101, 120, 97, 109, 112, 108, 101, 47, 103, 48, 48, 52, 55, 55, 47, 108, 97, 119, 115, 46, 70, 110, 69, 120, 97, 99, 116, 83, 99, 104, 101, 109, 97, 84, 101, 120, 116, 32, 108, 111, 111, 112, 46, 101, 120, 97, 109, 112, 108, 101, 47, 103, 48, 48, 52, 55, 55, 47, 108, 97, 119, 115, 46, 70, 110, 69, 120, 97, 99, 116, 69, 120, 84, 101, 120, 116, 32, 108, 111, 111, 112, 46, 101, 120, 97, 109, 112, 108, 101, 47, 103, 48, 48, 52, 55, 55, 47, 108, 97, 119, 115, 46, 70, 110, 82, 111, 119, 84, 101, 120, 116, 32, 108, 111, 111, 112, 46, 101, 120, 97, 109, 112, 108, 101, 47, 103, 48, 48, 52, 55, 55, 47, 108, 97, 119, 115, 46, 70, 110, 82, 111, 119, 84, 111, 116, 97, 108, 32, 108, 111, 111, 112, 46, 101, 120, 97, 109, 112, 108, 101, 47, 103, 48, 48, 52, 55, 55, 47, 108, 97, 119, 115, 46, 70, 110, 69, 120, 97, 99, 116, 65, 116, 116, 114, 79, 102, 32, 108, 111, 111, 112, 46, 101, 120, 97, 109, 112, 108, 101, 47, 103, 48, 48, 52, 55, 55, 47, 108, 97, 119, 115, 46, 70, 110, 83, 99, 104, 101, 109, 97, 84, 101, 120, 116]
theorem head_eq : Tryd.prog.initOrder = String.ofList ((headA ++ 32 :: (headB ++ 32 :: (headC ++ 32 :: headR))).map Char.ofNat) := by kernel_rfl
theorem head_words : wordsSigns Tryd.prog.initOrder.toList = headA.map Char.ofNat :: headB.map Char.ofNat :: headC.map Char.ofNat :: wordsSigns (headR.map Char.ofNat) := by
  rw [head_eq, String.toList_ofList, words_behind _ _ (by decide), words_behind _ _ (by decide), words_behind _ _ (by decide)]
theorem behind_main (rest : List (List Char)) : behindMainWord (headA.map Char.ofNat :: headB.map Char.ofNat :: headC.map Char.ofNat :: rest) = headC.map Char.ofNat :: rest := by kernel_rfl
theorem strip_none (rest : List (List Char)) : stripLifts liftWords (headC.map Char.ofNat :: rest) = ([], headC.map Char.ofNat :: rest) := by kernel_rfl
theorem not_gc : (headC.map Char.ofNat == "gc".toList) = false := by kernel_rfl
theorem not_spec : (headC.map Char.ofNat == "spec".toList) = false := by kernel_rfl
theorem not_carried : (headC.map Char.ofNat == "carried".toList) = false := by kernel_rfl
theorem is_cut : (headC.map Char.ofNat == "cut".toList) = true := by kernel_rfl
section
variable {P : Program} {rest : List (List Char)} (h : wordsSigns P.initOrder.toList = headA.map Char.ofNat :: headB.map Char.ofNat :: headC.map Char.ofNat :: rest)
include h
theorem make_of : P.make = some .cut := by
  unfold Program.make
  rw [h, behind_main]
  simp only [not_gc, not_spec, is_cut, Bool.or_self, Bool.false_eq_true, if_false, Bool.true_or, if_true]
theorem headLifts_of : P.headLifts = [] := by
  unfold Program.headLifts
  rw [h, behind_main, strip_none]
  simp only [ite_self]
theorem liftsFinal_of : P.liftsFinal = false := by
  unfold Program.liftsFinal
  rw [headLifts_of h, h, behind_main]
  simp only [List.head?_cons, List.contains_nil, Bool.or_false, Option.some_beq_some, not_carried, Bool.false_and]
theorem mayEnter_of (h1 : P.laysLater = false) (h2 : P.bearsReflect = false) (h3 : P.doorFits [] = true) : P.mayEnter = true := by
  unfold Program.mayEnter
  rw [h, behind_main]
  simp only [strip_none, h1, h2, h3, not_gc, not_spec, not_carried, List.head?_cons, Option.some_beq_some, is_cut, List.contains_nil, Bool.not_false, Bool.or_true, Bool.and_self, Bool.false_and, Bool.or_self]
end
theorem make_cut : Tryd.prog.make = some .cut := make_of head_words
theorem liftsFinal_no : Tryd.prog.liftsFinal = false := liftsFinal_of head_words
theorem mayEnter_yes : Tryd.prog.mayEnter = true := mayEnter_of head_words (by kernel_rfl) (by kernel_rfl) (by kernel_rfl)
end Go.Proofs.YtohodehmidbmlaaDoor
namespace Go.Proofs.YtohodehmidbmlaaDoor
set_option maxRecDepth 100000
theorem main_sum : isSumSigns (headB.map Char.ofNat) = true := by kernel_rfl
theorem main_harness : (headA.map Char.ofNat == "harness".toList) = true := by kernel_rfl
theorem main_of {P : Program} {rest : List (List Char)} (h : wordsSigns P.initOrder.toList = headA.map Char.ofNat :: headB.map Char.ofNat :: rest) : P.mainIs = some (true, headB.map Char.ofNat) := by
  unfold Program.mainIs
  rw [h]
  simp only [main_sum, main_harness, Bool.not_true, Bool.false_eq_true, if_false, if_true]
theorem main_word : Rows.fnExactDigitsCard.stood.harness = (true, String.ofList (headB.map Char.ofNat)) := by kernel_rfl
theorem main_is : Tryd.prog.mainIs = some (Rows.fnExactDigitsCard.stood.harness.1, Rows.fnExactDigitsCard.stood.harness.2.toList) := by
  rw [main_word, main_of head_words]
  simp only [String.toList_ofList]
end Go.Proofs.YtohodehmidbmlaaDoor
namespace Go.Proofs.YtohodehmidbmlaaDoor.fnExactRowOf
open Go.ChangeShapes Go.WideShapes Go.ChangeAt Go.RowKit
open Go.ChangeMaps (open_string)
set_option linter.unusedVariables false
set_option maxRecDepth 100000


theorem lifted (os : Os) (started : os.Started) (H : Type) (enc : TypeId × Value → H) :
    ReturnsInHanded {} Tryd.checked os 3 .any (fun w args => (Rows.fnExactRowOfSpec.pre enc Tryd.prog Tryd.f3 [] false w args ∧ laidMetH Tryd.prog laid5 w) ∧ sizedMet enc Tryd.prog Tryd.f3 (OpenSpec.ofChange Rows.fnExactRowOfSpec) false w args) (Rows.fnExactRowOfSpec.post enc Tryd.prog Tryd.f3 false true false false) := by
  refine returnsInHanded_of_change_and (C := Tryd.checked) (X := fun w _ => laidMetH Tryd.prog laid5 w) (fun _ _ _ hh h => h.of_heap hh) own started (by kernel_rfl) Tryd.func3
    (ChangeSpec.witness_shaped (enc := enc) (C := Tryd.checked) (os := os) (X := fun w _ => laidMetH Tryd.prog laid5 w) false (World.doorLaid Tryd.prog 400 os) #[.agg #[.slice none 0 0, .slice none 0 0], .slice none 0 0] 8 rfl (door_shaped os _) (by kernel_rfl) (by kernel_rfl) (by kernel_rfl) (door_met5 os _)) ?_
  intro W base args ds gs before hval0 hW hcnd _ hL _
  have hval : ∀ (j : Nat) t v, Tryd.f3.params[j]? = some t → args[j]? = some v → Value.okWide Tryd.prog W .any base t v := hval0
  have hW' := hW
  obtain ⟨p, q, hA0, hV, rfl, hfz, hnd⟩ := hW
  have hA : DataW.TrodAll enc Tryd.prog W 0 (fun _ => true) true Tryd.f3.params.toList args.toList ds p := hA0
  rw [Tryd.params3] at hA hval
  obtain ⟨v0, vs0, d0, ds0, p0, q0, hargs, rfl, rfl, h0, r0⟩ := trodAll_cons hA
  obtain ⟨v1, vs1, d1, ds1, p1, q1, rfl, rfl, rfl, h1, r1⟩ := trodAll_cons r0
  obtain ⟨rfl, rfl, rfl⟩ := trodAll_nil r1
  obtain rfl : args = #[v0, v1] := by cases args; simp_all
  obtain ⟨rfl, rfl⟩ := trodVars_none hV
  obtain ⟨x00, x01, e0, rfl, w0⟩ := open_schema (hval 0 25 v0 rfl rfl) h0
  obtain ⟨A1, n1, c1, l1, rfl, w1, u1⟩ := open_byteS (hval 1 26 v1 rfl rfl) h1
  exact law_post laidOut Tryd.underlying4 rfl (by rw [Tryd.params3]; exact readables (by kernel_rfl) (by kernel_rfl)) rfl hW' rfl rfl rfl (fnExactRowOf_walk W x00 x01 e0 w0 A1 n1 c1 l1 w1 u1 (door_of5 hL))

theorem facts : joinedFacts Tryd.prog 3 Tryd.f3 Rows.fnExactRowOfSpec Rows.fnExactRowOfRow = true := by
  unfold joinedFacts
  rw [mayEnter_yes, liftsFinal_no, make_cut]
  kernel_rfl

theorem over : Rows.fnExactRowOfRow.holds Tryd.pinned (OpenSpec.ofChange Rows.fnExactRowOfSpec) :=
  OpenClaim.holds_of_wide 3 Tryd.f3 rfl rfl rfl rfl rfl rfl rfl ⟨rfl, rfl, rfl, rfl, rfl⟩ rfl rfl rfl rfl rfl (by kernel_rfl) Tryd.func3 facts
    (of_decide_eq_true (by kernel_rfl)) (by unfold Func.isWrapper; first | (rw [if_pos (by decide +kernel)]; kernel_rfl) | (rw [if_neg (by decide +kernel)]; exact ⟨rfl, rfl⟩))
    (fun os started H enc _ => lifted os started H enc)

theorem row_tie : Rows.fnExactRowOfRow.laidByTextAt .later Tryd.pinned [.data, .data, .data, .sentinel, .sentinel] true := fnExactRowOf_row_tie
theorem proved : Rows.FnExactRowOfCardSaid :=
  Claim7.holds_tied_plain_at .later [] [.data, .data, .data, .sentinel, .sentinel] true Rows.fnExactDigitsCard.stood.harness true
    over (fun _ h => by cases h) (by kernel_rfl) (fun _ h => by cases h) row_tie rfl ⟨rfl, rfl⟩ main_is rfl
    (fun f fn hf hfn => by
      obtain rfl : f = 3 := Option.some.inj ((show Tryd.prog.funcNamed Rows.fnExactRowOfRow.func = some 3 by kernel_rfl).symm.trans hf) |>.symm
      obtain rfl : fn = Tryd.f3 := (Option.some.inj (Tryd.func3.symm.trans hfn)).symm
      exact ⟨by kernel_rfl, fun j t ht => by
        rw [Tryd.params3] at ht
        have hm : t ∈ [25, 26] := by simpa using Array.mem_of_getElem? ht
        have hall : ([25, 26].all fun u => !Tryd.prog.wantsStandIn u) = true := by kernel_rfl
        exact (show Tryd.prog.wantsStandIn t = false by simpa using List.all_eq_true.1 hall t hm)⟩)
    (by kernel_rfl)
#print axioms proved
end Go.Proofs.YtohodehmidbmlaaDoor.fnExactRowOf
