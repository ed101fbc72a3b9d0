/-
  Proved: the law FnSchemaRead returns true for every input that the row speaks of, and every argument reads as before. No condition.
-/
import Derived.Test.YtohodehmidbmlaaDoorEText
import Derived.Test.YtohodehmidbmlaaDoorPartsP
import Derived.Test.YtohodehmidbmlaaDoorNum2
import Derived.Lib.IndexMore
import Derived.Test.YtohodehmidbmlaaDoorSchema4
import Derived.Test.YtohodehmidbmlaaDoorApp
import Derived.Shelf.Strings.Cut
import Derived.Test.YtohodehmidbmlaaDoorProg
import Derived.Test.YtohodehmidbmlaaDoorAtoi
import Derived.Test.YtohodehmidbmlaaDoorDoor
import Derived.Shelf.Vars
import Derived.Handed
import Derived.IntWalk
import Derived.Test.YtohodehmidbmlaaDoorStrs
import Derived.Test.YtohodehmidbmlaaDoorBag
import Derived.Test.YtohodehmidbmlaaDoorInts
import Derived.Test.YtohodehmidbmlaaDoorText2
import Derived.Test.YtohodehmidbmlaaDoorSchemaOk2
import Derived.Deep.RegionLaw
import Derived.Test.YtohodehmidbmlaaDoorSText
import Derived.Test.YtohodehmidbmlaaDoorRows
import Derived.Test.YtohodehmidbmlaaDoorCards
import Derived.Test.YtohodehmidbmlaaDoorTie
import Derived.SevenTiedAt
import Derived.Test.YtohodehmidbmlaaDoorOpen
namespace Go.Proofs.YtohodehmidbmlaaDoor
open Go.RowKit

/-- No byte of p is b. -/
def offB (b : UInt8) (p : ByteArray) : Prop := ∀ c ∈ p.data.toList, c ≠ b
theorem offB_of_noB {b : UInt8} {p : ByteArray} (h : noB b.toNat p) : offB b p := by
  intro c hc e
  obtain ⟨j, hj, rfl⟩ := List.mem_iff_getElem.1 hc
  refine h j hj ?_
  rw [List.getElem?_eq_getElem hj, Option.getD_some, e]
theorem list_split {b : UInt8} : ∀ {x y F G : List UInt8}, (∀ c ∈ x, c ≠ b) → (∀ c ∈ y, c ≠ b) → (F = [] ∨ ∃ t, F = b :: t) → (G = [] ∨ ∃ t, G = b :: t) → x ++ F = y ++ G → x = y ∧ F = G
  | [], [], F, G, _, _, _, _, h => ⟨rfl, h⟩
  | [], d :: y, F, G, _, hy, hF, _, h => by
    rcases hF with rfl | ⟨t, rfl⟩
    · simp at h
    · simp only [List.nil_append, List.cons_append, List.cons.injEq] at h
      exact (hy d (by simp) h.1.symm).elim
  | c :: x, [], F, G, hx, _, _, hG, h => by
    rcases hG with rfl | ⟨t, rfl⟩
    · simp at h
    · simp only [List.nil_append, List.cons_append, List.cons.injEq] at h
      exact (hx c (by simp) h.1).elim
  | c :: x, d :: y, F, G, hx, hy, hF, hG, h => by
    simp only [List.cons_append, List.cons.injEq] at h
    obtain ⟨rfl, h⟩ := h
    obtain ⟨rfl, rfl⟩ := list_split (fun e he => hx e (by simp [he])) (fun e he => hy e (by simp [he])) hF hG h
    exact ⟨rfl, rfl⟩
theorem tail_form (b : UInt8) (t : List ByteArray) : (t.flatMap fun y => b :: y.data.toList) = [] ∨ ∃ u, (t.flatMap fun y => b :: y.data.toList) = b :: u := by
  cases t with
  | nil => exact .inl rfl
  | cons y t => exact .inr ⟨y.data.toList ++ t.flatMap fun y => b :: y.data.toList, by simp⟩
theorem tails_eq {b : UInt8} : ∀ {t u : List ByteArray}, (∀ p ∈ t, offB b p) → (∀ p ∈ u, offB b p) → (t.flatMap fun y => b :: y.data.toList) = (u.flatMap fun y => b :: y.data.toList) → t = u
  | [], [], _, _, _ => rfl
  | [], y :: u, _, _, h => by simp at h
  | y :: t, [], _, _, h => by simp at h
  | y :: t, z :: u, ht, hu, h => by
    simp only [List.flatMap_cons, List.cons_append, List.cons.injEq, true_and] at h
    obtain ⟨h1, h2⟩ := list_split (ht y (by simp)) (hu z (by simp)) (tail_form b t) (tail_form b u) h
    rw [bytes_ext h1, tails_eq (fun p hp => ht p (by simp [hp])) (fun p hp => hu p (by simp [hp])) h2]
theorem joinP_inj {b : UInt8} {l m : List ByteArray} (hl : 0 < l.length) (hm : 0 < m.length) (h1 : ∀ p ∈ l, offB b p) (h2 : ∀ p ∈ m, offB b p) (h : joinP b l = joinP b m) : l = m := by
  match l, m, hl, hm with
  | x :: t, y :: u, _, _ =>
    obtain ⟨e1, e2⟩ := list_split (h1 x (by simp)) (h2 y (by simp)) (tail_form b t) (tail_form b u) (show x.data.toList ++ _ = y.data.toList ++ _ from h)
    rw [bytes_ext e1, tails_eq (fun p hp => h1 p (by simp [hp])) (fun p hp => h2 p (by simp [hp])) e2]
theorem joinP_joinB (b : UInt8) (l : List ByteArray) : (joinB l ⟨#[b]⟩).data.toList = joinP b l := by
  match l with
  | [] => rfl
  | x :: t =>
    rw [joinB_list, List.map_cons, Lib.join_cons, joinP]
    congr 1
    unfold Lib.joinTail
    rw [List.map_map, List.flatMap_def]
    rfl
theorem ofNat_b (b : UInt8) : UInt8.ofNat ((b.toNat : Nat) : Int).toNat = b := by simp
theorem parts_pos (s : ByteArray) (b : Int) : 0 < (parts s b).length := by simp [parts]
theorem parts_off {s : ByteArray} {b : UInt8} : ∀ p ∈ parts s b.toNat, offB b p := by
  obtain ⟨h1, -⟩ := parts_law s b.toNat ⟨by omega, by have := b.toNat_lt; omega⟩
  exact fun p hp => offB_of_noB (h1 p hp)
theorem joinB_parts (s : ByteArray) (b : UInt8) : joinB (parts s b.toNat) ⟨#[b]⟩ = s := by
  obtain ⟨-, h2⟩ := parts_law s b.toNat ⟨by omega, by have := b.toNat_lt; omega⟩
  rw [ofNat_b] at h2
  exact bytes_ext (by rw [joinP_joinB, h2])
theorem parts_joinB {b : UInt8} {l : List ByteArray} (hl : 0 < l.length) (h : ∀ p ∈ l, offB b p) : parts (joinB l ⟨#[b]⟩) b.toNat = l := by
  obtain ⟨-, h2⟩ := parts_law (joinB l ⟨#[b]⟩) b.toNat ⟨by omega, by have := b.toNat_lt; omega⟩
  rw [ofNat_b, joinP_joinB] at h2
  exact joinP_inj (parts_pos _ _) hl parts_off h h2
theorem joinB_two (b : UInt8) (x y : ByteArray) : joinB [x, y] ⟨#[b]⟩ = x ++ ⟨#[b]⟩ ++ y := by
  apply bytes_ext
  rw [joinP_joinB, app_list, app_list]
  simp [joinP]
theorem parts_two {b : UInt8} {x y : ByteArray} (hx : offB b x) (hy : offB b y) : parts (x ++ ⟨#[b]⟩ ++ y) b.toNat = [x, y] := by
  rw [← joinB_two]
  refine parts_joinB (by simp) fun p hp => ?_
  simp only [List.mem_cons, List.not_mem_nil, or_false] at hp
  rcases hp with rfl | rfl
  · exact hx
  · exact hy
theorem parts_one {b : UInt8} {s : ByteArray} (h : offB b s) : parts s b.toNat = [s] := by
  have e : s = joinB [s] ⟨#[b]⟩ := (joinB_one s _).symm
  conv => lhs; rw [e]
  refine parts_joinB (by simp) fun p hp => ?_
  rw [List.mem_singleton] at hp
  subst hp
  exact h
theorem parts_pair {s : ByteArray} {b : UInt8} (h : (parts s b.toNat).length = 2) : ∃ x y, parts s b.toNat = [x, y] ∧ s = x ++ ⟨#[b]⟩ ++ y ∧ offB b x ∧ offB b y := by
  match hp : parts s b.toNat, h with
  | [x, y], _ =>
    have ho := parts_off (s := s) (b := b)
    rw [hp] at ho
    exact ⟨x, y, rfl, by rw [← joinB_two, ← hp, joinB_parts], ho x (by simp), ho y (by simp)⟩

/-- The bytes of a joined text. -/
theorem mem_joinB {c : UInt8} {l : List ByteArray} {b : UInt8} (h : c ∈ (joinB l ⟨#[b]⟩).data.toList) : c = b ∨ ∃ p ∈ l, c ∈ p.data.toList := by
  rw [joinP_joinB] at h
  match l, h with
  | x :: t, h =>
    rw [joinP] at h
    rcases List.mem_append.1 h with h | h
    · exact .inr ⟨x, by simp, h⟩
    · obtain ⟨y, hy, h⟩ := List.mem_flatMap.1 h
      rcases List.mem_cons.1 h with h | h
      · exact .inl h
      · exact .inr ⟨y, by simp [hy], h⟩
theorem off_joinB {l : List ByteArray} {b d : UInt8} (hb : b ≠ d) (h : ∀ p ∈ l, offB d p) : offB d (joinB l ⟨#[b]⟩) := by
  intro c hc
  rcases mem_joinB hc with rfl | ⟨p, hp, h1⟩
  · exact hb
  · exact h p hp c h1
theorem off_app {x y : ByteArray} {d : UInt8} (hx : offB d x) (hy : offB d y) : offB d (x ++ y) := by
  intro c hc
  rw [app_list] at hc
  rcases List.mem_append.1 hc with h | h
  · exact hx c h
  · exact hy c h
theorem off_one {b d : UInt8} (h : b ≠ d) : offB d ⟨#[b]⟩ := by
  intro c hc
  have : c = b := by simpa using hc
  subst this
  exact h
theorem wordB_bytes {s : ByteArray} (h : wordB s = true) : ∀ c ∈ s.data.toList, 97 ≤ c.toNat ∧ c.toNat ≤ 122 := by
  unfold wordB at h
  rw [Bool.and_eq_true, List.all_eq_true] at h
  intro c hc
  have := h.2 c hc
  simp only [letB, Bool.and_eq_true, decide_eq_true_eq] at this
  omega
theorem word_off {s : ByteArray} {d : UInt8} (h : wordB s = true) (hd : d.toNat < 97 ∨ 122 < d.toNat) : offB d s := by
  intro c hc e
  have := wordB_bytes h c hc
  subst e
  omega
theorem numB_bytes (n : Int) : ∀ c ∈ (numB n).data.toList, c.toNat = 45 ∨ (48 ≤ c.toNat ∧ c.toNat ≤ 57) := by
  have key : ∀ u, ∀ c ∈ Lib.decDigits u, 48 ≤ c.toNat ∧ c.toNat ≤ 57 := by
    intro u c hc
    obtain ⟨k, hk, rfl⟩ := List.mem_iff_getElem.1 hc
    obtain ⟨d, h⟩ := Lib.digit_of_decFrom _ _ _ (decFrom_digits u) k _ (List.getElem?_eq_getElem hk)
    unfold Lib.digitVal at h
    split at h
    · assumption
    · cases h
  intro c hc
  rw [numB_list] at hc
  unfold Lib.itoa at hc
  split at hc
  · rcases List.mem_cons.1 hc with rfl | hc
    · exact .inl rfl
    · exact .inr (key _ c hc)
  · exact .inr (key _ c hc)
theorem num_off {n : Int} {d : UInt8} (h1 : d.toNat ≠ 45) (hd : d.toNat < 48 ∨ 57 < d.toNat) : offB d (numB n) := by
  intro c hc e
  have := numB_bytes n c hc
  subst e
  omega

/-- strings.Cut at one byte. -/
theorem index_one (b : UInt8) : ∀ l : List UInt8, (Lib.index l [b] = -1 ∧ ∀ c ∈ l, c ≠ b) ∨ ∃ x y, l = x ++ b :: y ∧ (∀ c ∈ x, c ≠ b) ∧ Lib.index l [b] = x.length
  | [] => .inl ⟨rfl, by simp⟩
  | c :: l => by
    by_cases hc : b = c
    · subst hc
      exact .inr ⟨[], l, rfl, by simp, by simp [Lib.index]⟩
    · rcases index_one b l with ⟨h1, h2⟩ | ⟨x, y, h1, h2, h3⟩
      · refine .inl ⟨by simp [Lib.index, hc, h1], fun d hd => ?_⟩
        rcases List.mem_cons.1 hd with rfl | hd
        · exact Ne.symm hc
        · exact h2 d hd
      · refine .inr ⟨c :: x, y, by rw [h1]; rfl, fun d hd => ?_, ?_⟩
        · rcases List.mem_cons.1 hd with rfl | hd
          · exact Ne.symm hc
          · exact h2 d hd
        · have : ¬ ((x.length : Int) = -1) := by omega
          simp [Lib.index, hc, h3, this]
/-- What strings.Cut hands back at one byte. -/
def CutP (b : UInt8) (s x y : ByteArray) (ok : Bool) : Prop := (ok = false ∧ offB b s) ∨ (ok = true ∧ s = x ++ ⟨#[b]⟩ ++ y ∧ offB b x)
theorem cutP (b : UInt8) (s : ByteArray) : CutP b s ⟨(Lib.cut s.data.toList [b]).1.toArray⟩ ⟨(Lib.cut s.data.toList [b]).2.1.toArray⟩ (Lib.cut s.data.toList [b]).2.2 := by
  rcases index_one b s.data.toList with ⟨h1, h2⟩ | ⟨x, y, h1, h2, h3⟩
  · refine .inl ⟨?_, h2⟩
    unfold Lib.cut
    rw [h1, if_neg (by omega)]
  · have e : Lib.cut s.data.toList [b] = (x, y, true) := by
      unfold Lib.cut
      rw [h3, if_pos (by omega), h1]
      simp
    rw [e]
    refine .inr ⟨rfl, bytes_ext ?_, h2⟩
    rw [app_list, app_list, h1]
    simp
end Go.Proofs.YtohodehmidbmlaaDoor
namespace Go.Proofs.YtohodehmidbmlaaDoor
open Go.RowKit

def rdS (s : ByteArray) : Int × Bool := rdI s (-9999) 9999
def numsOk (l : List ByteArray) : Bool := l.all fun s => (rdS s).2
def numsOf (l : List ByteArray) : List Int := l.map fun s => (rdS s).1
theorem rdS_num {x : Int} (h0 : -9999 ≤ x) (h1 : x ≤ 9999) : rdS (numB x) = (x, true) := rdI_yes (by omega) (by omega) (inB_iff.2 ⟨h0, h1⟩) rfl
theorem rdS_bd (s : ByteArray) : -9999 ≤ (rdS s).1 ∧ (rdS s).1 ≤ 9999 := by
  rcases rdI_or s (-9999) 9999 with h | ⟨v, hb, -, h⟩
  · rw [rdS, h]; simp
  · rw [rdS, h]; exact inB_iff.1 hb
theorem map_back {α β : Type} {l : List α} {f : α → β} {g : β → α} (h : ∀ x ∈ l, g (f x) = x) : (l.map f).map g = l := by
  induction l with
  | nil => rfl
  | cons x l ih => rw [List.map_cons, List.map_cons, h x (by simp), ih fun y hy => h y (by simp [hy])]
theorem nums_rt {l : List Int} (h : ∀ x ∈ l, -9999 ≤ x ∧ x ≤ 9999) : numsOk (l.map numB) = true ∧ numsOf (l.map numB) = l := by
  refine ⟨?_, map_back fun x hx => by rw [rdS_num (h x hx).1 (h x hx).2]⟩
  unfold numsOk
  rw [List.all_eq_true]
  intro s hs
  obtain ⟨x, hx, rfl⟩ := List.mem_map.1 hs
  rw [rdS_num (h x hx).1 (h x hx).2]
/-- The attribute that a text whose parts are p (at '=') and q (at ':') may stand for. -/
def candP (p q : List ByteArray) : Option AttrD :=
  if p.length = 2 then some ⟨p[0]?.getD ByteArray.empty, [], parts (p[1]?.getD ByteArray.empty) 44⟩
  else if q.length = 2 then (if numsOk (parts (q[1]?.getD ByteArray.empty) 44) = true then some ⟨q[0]?.getD ByteArray.empty, numsOf (parts (q[1]?.getD ByteArray.empty) 44), []⟩ else none)
  else some ⟨ByteArray.empty, [], []⟩
theorem candP_one (x y : ByteArray) (q : List ByteArray) : candP [x, y] q = some ⟨x, [], parts y 44⟩ := by unfold candP; simp
theorem candP_two {p : List ByteArray} (x y : ByteArray) (h : ¬ p.length = 2) : candP p [x, y] = if numsOk (parts y 44) = true then some ⟨x, numsOf (parts y 44), []⟩ else none := by unfold candP; simp [h]
theorem candP_none {p q : List ByteArray} (h : ¬ p.length = 2) (h2 : ¬ q.length = 2) : candP p q = some ⟨ByteArray.empty, [], []⟩ := by unfold candP; simp [h, h2]
def keepA (s : ByteArray) (c : Option AttrD) : Option AttrD := match c with
  | some a => if attrB a = true ∧ attrT a = s then some a else none
  | none => none
/-- The attribute of a text. -/
def attrOf (s : ByteArray) : Option AttrD := keepA s (candP (parts s 61) (parts s 58))
theorem keepA_some {s : ByteArray} {c : Option AttrD} {a : AttrD} (h : keepA s c = some a) : c = some a ∧ attrB a = true ∧ attrT a = s := by
  unfold keepA at h
  split at h
  · split at h
    · rename_i h2; injection h with h; subst h; exact ⟨rfl, h2⟩
    · cases h
  · cases h
theorem keepA_yes {s : ByteArray} {a : AttrD} (h1 : attrB a = true) (h2 : attrT a = s) : keepA s (some a) = some a := by
  simp [keepA, h1, h2]
theorem attrOf_some {s : ByteArray} {a : AttrD} (h : attrOf s = some a) : attrB a = true ∧ attrT a = s := (keepA_some h).2

/-- The parts of a right attribute's text. -/
theorem attrT_form {a : AttrD} (h : attrB a = true) :
    (a.cuts = [] ∧ 0 < a.vals.length ∧ attrT a = a.name ++ ⟨#[61]⟩ ++ joinB a.vals ⟨#[44]⟩ ∧ wordB a.name = true ∧ ∀ s ∈ a.vals, wordB s = true) ∨
    (a.vals = [] ∧ 0 < a.cuts.length ∧ attrT a = a.name ++ ⟨#[58]⟩ ++ joinB (a.cuts.map numB) ⟨#[44]⟩ ∧ wordB a.name = true ∧ ∀ x ∈ a.cuts, -9999 ≤ x ∧ x ≤ 9998) := by
  have hw := attrB_word h
  rcases attrB_parts h with ⟨h1, h2, h3, h4⟩ | ⟨h1, h2, h3, h4, h5⟩
  · refine .inl ⟨List.eq_nil_of_length_eq_zero h1, by omega, attrT_vals h (by omega), hw, fun s hs => ?_⟩
    have h6 := attrB_few hw h1
    rw [h] at h6
    have h7 := h6.symm
    rw [Bool.and_eq_true] at h7
    unfold wordsB at h7
    rw [Bool.and_eq_true, List.all_eq_true] at h7
    exact h7.2.1 s hs
  · refine .inr ⟨List.eq_nil_of_length_eq_zero h1, by omega, attrT_cuts h (by omega), hw, fun x hx => ?_⟩
    obtain ⟨i, hi, rfl⟩ := List.mem_iff_getElem.1 hx
    have := h5 i hi
    rwa [List.getElem?_eq_getElem hi, Option.getD_some] at this
theorem vals_off {l : List ByteArray} {d : UInt8} (h : ∀ s ∈ l, wordB s = true) (h1 : d ≠ 44) (hd : d.toNat < 97 ∨ 122 < d.toNat) : offB d (joinB l ⟨#[44]⟩) :=
  off_joinB (Ne.symm h1) fun p hp => word_off (h p hp) hd
theorem cuts_off {l : List Int} {d : UInt8} (h1 : d ≠ 44) (h2 : d.toNat ≠ 45) (hd : d.toNat < 48 ∨ 57 < d.toNat) : offB d (joinB (l.map numB) ⟨#[44]⟩) :=
  off_joinB (Ne.symm h1) fun p hp => by
    obtain ⟨x, -, rfl⟩ := List.mem_map.1 hp
    exact num_off h2 hd
theorem vals_parts {l : List ByteArray} (h0 : 0 < l.length) (h : ∀ s ∈ l, wordB s = true) : parts (joinB l ⟨#[44]⟩) 44 = l :=
  parts_joinB (b := 44) h0 fun p hp => word_off (h p hp) (by decide)
theorem cuts_parts {l : List Int} (h0 : 0 < l.length) : parts (joinB (l.map numB) ⟨#[44]⟩) 44 = l.map numB :=
  parts_joinB (b := 44) (by simpa using h0) fun p hp => by
    obtain ⟨x, -, rfl⟩ := List.mem_map.1 hp
    exact num_off (by decide) (by decide)
/-- A right attribute's text is read as it was. -/
theorem attrOf_rt {a : AttrD} (h : attrB a = true) : attrOf (attrT a) = some a := by
  have hc : candP (parts (attrT a) 61) (parts (attrT a) 58) = some a := by
    rcases attrT_form h with ⟨h1, h2, h3, h4, h5⟩ | ⟨h1, h2, h3, h4, h5⟩
    · rw [h3, show parts (a.name ++ ⟨#[61]⟩ ++ joinB a.vals ⟨#[44]⟩) 61 = [a.name, joinB a.vals ⟨#[44]⟩] from parts_two (b := 61) (word_off h4 (by decide)) (vals_off h5 (by decide) (by decide))]
      rw [candP_one, vals_parts h2 h5]
      obtain ⟨nm, cs, vs⟩ := a
      obtain rfl : cs = [] := h1
      rfl
    · rw [h3, show parts (a.name ++ ⟨#[58]⟩ ++ joinB (a.cuts.map numB) ⟨#[44]⟩) 61 = [a.name ++ ⟨#[58]⟩ ++ joinB (a.cuts.map numB) ⟨#[44]⟩] from
          parts_one (b := 61) (off_app (off_app (word_off h4 (by decide)) (off_one (by decide))) (cuts_off (by decide) (by decide) (by decide))),
        show parts (a.name ++ ⟨#[58]⟩ ++ joinB (a.cuts.map numB) ⟨#[44]⟩) 58 = [a.name, joinB (a.cuts.map numB) ⟨#[44]⟩] from parts_two (b := 58) (word_off h4 (by decide)) (cuts_off (by decide) (by decide) (by decide))]
      obtain ⟨g1, g2⟩ := nums_rt fun x hx => ⟨(h5 x hx).1, by have := (h5 x hx).2; omega⟩
      rw [candP_two _ _ (by simp), cuts_parts h2, g1, g2, if_pos rfl]
      obtain ⟨nm, cs, vs⟩ := a
      obtain rfl : vs = [] := h1
      rfl
  rw [attrOf, hc]
  exact keepA_yes h rfl
/-- Whatever finds each right attribute in its own text, and checks what it found, reads as the reference does. -/
theorem keepA_any {s : ByteArray} {c : Option AttrD} (h : ∀ a, attrB a = true → attrT a = s → c = some a) : keepA s c = attrOf s := by
  rcases hk : attrOf s with _ | a
  · rcases hc : keepA s c with _ | b
    · rfl
    · obtain ⟨-, h1, h2⟩ := keepA_some hc
      have := attrOf_rt h1
      rw [h2, hk] at this
      cases this
  · obtain ⟨h1, h2⟩ := attrOf_some hk
    rw [h a h1 h2]
    exact keepA_yes h1 h2
/-- The attribute that the program's cuts of a text may stand for. -/
def candC (ok1 ok2 : Bool) (x1 y1 x2 y2 : ByteArray) : Option AttrD :=
  if ok1 = true then some ⟨x1, [], parts y1 44⟩
  else if ok2 = true then (if numsOk (parts y2 44) = true then some ⟨x2, numsOf (parts y2 44), []⟩ else none)
  else some ⟨ByteArray.empty, [], []⟩
theorem cut_at {b : UInt8} {s x y u v : ByteArray} {ok : Bool} (h : CutP b s x y ok) (hs : s = u ++ ⟨#[b]⟩ ++ v) (hu : offB b u) : ok = true ∧ x = u ∧ y = v := by
  rcases h with ⟨-, h⟩ | ⟨rfl, h, hx⟩
  · refine (h b ?_ rfl).elim
    rw [hs, app_list, app_list]; simp
  · refine ⟨rfl, ?_⟩
    have e : x.data.toList ++ b :: y.data.toList = u.data.toList ++ b :: v.data.toList := by
      have := congrArg (fun z : ByteArray => z.data.toList) (h.symm.trans hs)
      simpa [app_list] using this
    obtain ⟨e1, e2⟩ := list_split hx hu (.inr ⟨_, rfl⟩) (.inr ⟨_, rfl⟩) e
    injection e2 with _ e2
    exact ⟨bytes_ext e1, bytes_ext e2⟩
theorem cut_off {b : UInt8} {s x y : ByteArray} {ok : Bool} (h : CutP b s x y ok) (hs : offB b s) : ok = false := by
  rcases h with ⟨h, -⟩ | ⟨rfl, h, hx⟩
  · exact h
  · refine (hs b ?_ rfl).elim
    rw [h, app_list, app_list]; simp
theorem candC_rt {s x1 y1 x2 y2 : ByteArray} {ok1 ok2 : Bool} (h1 : CutP 61 s x1 y1 ok1) (h2 : CutP 58 s x2 y2 ok2) : keepA s (candC ok1 ok2 x1 y1 x2 y2) = attrOf s := by
  refine keepA_any fun a ha hs => ?_
  subst hs
  rcases attrT_form ha with ⟨g1, g2, g3, g4, g5⟩ | ⟨g1, g2, g3, g4, g5⟩
  · obtain ⟨rfl, rfl, rfl⟩ := cut_at h1 g3 (word_off g4 (by decide))
    unfold candC
    rw [if_pos rfl, vals_parts g2 g5]
    obtain ⟨nm, cs, vs⟩ := a
    obtain rfl : cs = [] := g1
    rfl
  · obtain rfl := cut_off h1 (by rw [g3]; exact off_app (off_app (word_off g4 (by decide)) (off_one (by decide))) (cuts_off (by decide) (by decide) (by decide)))
    obtain ⟨rfl, rfl, rfl⟩ := cut_at h2 g3 (word_off g4 (by decide))
    obtain ⟨k1, k2⟩ := nums_rt fun x hx => ⟨(g5 x hx).1, by have := (g5 x hx).2; omega⟩
    unfold candC
    rw [if_neg (by simp), if_pos rfl, cuts_parts g2, k1, k2, if_pos rfl]
    obtain ⟨nm, cs, vs⟩ := a
    obtain rfl : vs = [] := g1
    rfl

/-! Schemas. -/
def attrsOk (l : List ByteArray) : Bool := l.all fun s => (attrOf s).isSome
def attrsOf (l : List ByteArray) : List AttrD := l.map fun s => (attrOf s).getD default
def keepS (d : SchemaD) : Option SchemaD := if schemaB d = true then some d else none
/-- The schema of a front and a back. -/
def schemaFB (x y : ByteArray) : Option SchemaD := if attrsOk (parts x 59) = true then keepS ⟨attrsOf (parts x 59), parts y 44⟩ else none
/-- The schema of a text. -/
def schemaOf (s : ByteArray) : Option SchemaD := if (parts s 124).length = 2 then schemaFB ((parts s 124)[0]?.getD ByteArray.empty) ((parts s 124)[1]?.getD ByteArray.empty) else none
theorem attrT_off {a : AttrD} {d : UInt8} (h : attrB a = true) (h1 : d ≠ 44) (h2 : d.toNat ≠ 45) (h3 : d.toNat < 48 ∨ 122 < d.toNat ∨ d = 59) : offB d (attrT a) := by
  have hd : d ≠ 61 ∧ d ≠ 58 ∧ (d.toNat < 97 ∨ 122 < d.toNat) ∧ (d.toNat < 48 ∨ 57 < d.toNat) := by
    rcases h3 with h | h | rfl
    · refine ⟨fun e => by subst e; simp at h, fun e => by subst e; simp at h, by omega, by omega⟩
    · refine ⟨fun e => by subst e; simp at h, fun e => by subst e; simp at h, by omega, by omega⟩
    · decide
  obtain ⟨d1, d2, d3, d4⟩ := hd
  rcases attrT_form h with ⟨g1, g2, g3, g4, g5⟩ | ⟨g1, g2, g3, g4, g5⟩
  · rw [g3]; exact off_app (off_app (word_off g4 d3) (off_one (Ne.symm d1))) (vals_off g5 h1 d3)
  · rw [g3]; exact off_app (off_app (word_off g4 d3) (off_one (Ne.symm d2))) (cuts_off h1 h2 d4)
theorem attrs_rt {l : List AttrD} (h : ∀ a ∈ l, attrB a = true) : attrsOk (l.map attrT) = true ∧ attrsOf (l.map attrT) = l := by
  refine ⟨?_, map_back fun x hx => by rw [attrOf_rt (h x hx)]; rfl⟩
  unfold attrsOk
  rw [List.all_eq_true]
  intro s hs
  obtain ⟨x, hx, rfl⟩ := List.mem_map.1 hs
  rw [attrOf_rt (h x hx)]
  rfl
theorem schemaB_words' {d : SchemaD} (h : schemaB d = true) : ∀ s ∈ d.classes, wordB s = true := by
  unfold schemaB at h
  simp only [Bool.and_eq_true] at h
  have h2 := h.2.2.1
  unfold wordsB at h2
  rw [Bool.and_eq_true, List.all_eq_true] at h2
  exact h2.1
theorem schemaT_form {d : SchemaD} (h : schemaB d = true) : parts (schemaT d) 124 = [joinB (d.attrs.map attrT) ⟨#[59]⟩, joinB d.classes ⟨#[44]⟩] ∧ parts (joinB (d.attrs.map attrT) ⟨#[59]⟩) 59 = d.attrs.map attrT ∧ parts (joinB d.classes ⟨#[44]⟩) 44 = d.classes := by
  obtain ⟨h1, h2, -, h3⟩ := schemaB_parts h
  have hw := schemaB_words' h
  refine ⟨?_, ?_, vals_parts (by omega) hw⟩
  · rw [schemaT_yes h]
    exact parts_two (b := 124) (off_joinB (by decide) fun p hp => by
      obtain ⟨a, ha, rfl⟩ := List.mem_map.1 hp
      exact attrT_off (h3 a ha) (by decide) (by decide) (by decide)) (vals_off hw (by decide) (by decide))
  · refine parts_joinB (b := 59) (by rw [List.length_map]; omega) fun p hp => ?_
    obtain ⟨a, ha, rfl⟩ := List.mem_map.1 hp
    exact attrT_off (h3 a ha) (by decide) (by decide) (by decide)
/-- A right schema's text is read as it was. -/
theorem schemaOf_rt {d : SchemaD} (h : schemaB d = true) : schemaOf (schemaT d) = some d := by
  obtain ⟨h1, h2, h3⟩ := schemaT_form h
  obtain ⟨-, -, -, h4⟩ := schemaB_parts h
  obtain ⟨g1, g2⟩ := attrs_rt h4
  unfold schemaOf schemaFB keepS
  rw [h1]
  simp [h2, h3, g1, g2, h]
theorem schemaOf_empty : schemaOf ⟨#[]⟩ = none := by
  have e : parts (⟨#[]⟩ : ByteArray) 124 = [⟨#[]⟩] := parts_one (b := 124) (by intro c hc; simp at hc)
  unfold schemaOf
  rw [e, if_neg (by simp)]
theorem attrs_join {l : List ByteArray} (h : attrsOk l = true) : (attrsOf l).map attrT = l := by
  induction l with
  | nil => rfl
  | cons x l ih =>
    unfold attrsOk at h ih
    rw [List.all_cons, Bool.and_eq_true] at h
    obtain ⟨a, ha⟩ := Option.isSome_iff_exists.1 h.1
    have e : attrsOf (x :: l) = (attrOf x).getD default :: attrsOf l := rfl
    rw [e, List.map_cons, ih h.2, ha, Option.getD_some, (attrOf_some ha).2]
/-- A text that is read as a schema is that schema's. -/
theorem schemaOf_some {s : ByteArray} {d : SchemaD} (h : schemaOf s = some d) : schemaB d = true ∧ schemaT d = s := by
  unfold schemaOf at h
  split at h
  · rename_i h2
    obtain ⟨x, y, hp, hs, hx, hy⟩ := parts_pair (s := s) (b := 124) h2
    have hp' : parts s 124 = [x, y] := hp
    rw [hp'] at h
    simp only [List.getElem?_cons_zero, List.getElem?_cons_succ, Option.getD_some] at h
    unfold schemaFB at h
    split at h
    · rename_i ho
      unfold keepS at h
      split at h
      · rename_i hb
        injection h with h
        subst h
        refine ⟨hb, ?_⟩
        rw [schemaT_yes hb]
        simp only [attrs_join ho]
        rw [show joinB (parts x 59) ⟨#[59]⟩ = x from joinB_parts x 59, show joinB (parts y 44) ⟨#[44]⟩ = y from joinB_parts y 44, hs]
      · cases h
    · cases h
  · cases h
/-- What the program reads. -/
def schemaC (ok : Bool) (x y : ByteArray) : Option SchemaD := if ok = true then schemaFB x y else none
theorem schemaB_bar {d : SchemaD} {p : ByteArray} (hp : p ∈ d.classes) (h : (124 : UInt8) ∈ p.data.toList) : schemaB d = false := by
  rcases hb : schemaB d with _ | _
  · rfl
  · exact (word_off (schemaB_words' hb p hp) (d := 124) (by decide) 124 h rfl).elim
theorem schemaC_eq {s x y : ByteArray} {ok : Bool} (h : CutP 124 s x y ok) : schemaC ok x y = schemaOf s := by
  rcases h with ⟨rfl, h⟩ | ⟨rfl, h, hx⟩
  · have e : parts s 124 = [s] := parts_one (b := 124) h
    unfold schemaC schemaOf
    rw [e, if_neg (by simp), if_neg (by simp)]
  · unfold schemaC
    rw [if_pos rfl]
    by_cases hy : offB 124 y
    · have e : parts s 124 = [x, y] := by rw [h]; exact parts_two (b := 124) hx hy
      unfold schemaOf
      rw [e]
      simp
    · have e : ¬ (parts s 124).length = 2 := fun e => by
        obtain ⟨u, v, -, hs, hu, hv⟩ := parts_pair (s := s) (b := 124) e
        have hc : CutP 124 s x y true := .inr ⟨rfl, h, hx⟩
        obtain ⟨-, -, rfl⟩ := cut_at hc hs hu
        exact hy hv
      unfold schemaOf
      rw [if_neg e]
      unfold schemaFB
      split
      · unfold keepS
        rw [if_neg]
        intro hb
        unfold offB at hy
        simp only [Classical.not_forall, Classical.not_not, exists_prop] at hy
        obtain ⟨c, hc, rfl⟩ := hy
        rw [← show joinB (parts y 44) ⟨#[44]⟩ = y from joinB_parts y 44] at hc
        rcases mem_joinB hc with hc | ⟨p, hp, hc⟩
        · cases hc
        · rw [schemaB_bar (d := ⟨_, parts y 44⟩) hp hc] at hb
          cases hb
      · rfl
end Go.Proofs.YtohodehmidbmlaaDoor
namespace Go.Proofs.YtohodehmidbmlaaDoor
open Go.RowKit

abbrev quest : ByteArray := ⟨#[63]⟩
theorem idxI_bd {α : Type} (p : α → Bool) (l : List α) : -1 ≤ idxI p l ∧ idxI p l ≤ (l.length : Int) - 1 := by
  unfold idxI
  split
  · rename_i i h
    obtain ⟨h1, -⟩ := List.findIdx?_eq_some_iff_getElem.1 h
    omega
  · omega
/-- The bin of a cell's text, and whether there is one. -/
def cellP (a : AttrD) (s : ByteArray) : Int × Bool :=
  if s = quest then (-1, true) else if 0 < a.vals.length then (idxI (fun y => decide (s = y)) a.vals, decide (0 ≤ idxI (fun y => decide (s = y)) a.vals)) else ((binI a.cuts (rdS s).1 : Int), (rdS s).2)
theorem cellP_q {a : AttrD} {s : ByteArray} (h : s = quest) : cellP a s = (-1, true) := by unfold cellP; rw [if_pos h]
theorem cellP_val {a : AttrD} {s : ByteArray} (h : ¬ s = quest) (hv : 0 < a.vals.length) : cellP a s = (idxI (fun y => decide (s = y)) a.vals, decide (0 ≤ idxI (fun y => decide (s = y)) a.vals)) := by unfold cellP; rw [if_neg h, if_pos hv]
theorem cellP_cut {a : AttrD} {s : ByteArray} (h : ¬ s = quest) (hv : ¬ 0 < a.vals.length) : cellP a s = ((binI a.cuts (rdS s).1 : Int), (rdS s).2) := by unfold cellP; rw [if_neg h, if_neg hv]
theorem cellP_bd {a : AttrD} {s : ByteArray} (h : attrB a = true) : -1 ≤ (cellP a s).1 ∧ (cellP a s).1 ≤ binsOf a - 1 := by
  have hb := binsOf_bd a
  rcases attrB_parts h with ⟨h1, h2, h3, h4⟩ | ⟨h1, h2, h3, h4, h5⟩
  · by_cases hq : s = quest
    · rw [cellP_q hq]; simp; omega
    · rw [cellP_val hq (by omega), h4]
      exact idxI_bd _ _
  · by_cases hq : s = quest
    · rw [cellP_q hq]; simp; omega
    · rw [cellP_cut hq (by omega), h4]
      have := binI_le a.cuts (rdS s).1
      simp only
      omega
def rowOkAt (d : SchemaD) (cells : List ByteArray) (i : Nat) : Bool := (cellP (d.attrs[i]?.getD default) (cells[i]?.getD ByteArray.empty)).2
def rowBins (d : SchemaD) (cells : List ByteArray) (k : Nat) : List Int := (List.range k).map fun i => (cellP (d.attrs[i]?.getD default) (cells[i]?.getD ByteArray.empty)).1
theorem rowBins_snoc (d : SchemaD) (cells : List ByteArray) (k : Nat) : rowBins d cells (k + 1) = rowBins d cells k ++ [(cellP (d.attrs[k]?.getD default) (cells[k]?.getD ByteArray.empty)).1] := by
  unfold rowBins; simp [List.range_succ]
theorem rowBins_len (d : SchemaD) (cells : List ByteArray) (k : Nat) : (rowBins d cells k).length = k := by simp [rowBins]
def exNone : ExD := ⟨[], 0⟩
def clsP (d : SchemaD) (s : ByteArray) : Int := idxI (fun y => decide (s = y)) d.classes
/-- What the cells and the class give. -/
def rowCells (d : SchemaD) (cells : List ByteArray) (cl : ByteArray) : ExD × Int × Int :=
  match (List.range cells.length).find? (fun i => !rowOkAt d cells i) with
  | some i => (exNone, 5, i)
  | none => if clsP d cl < 0 ∧ ¬ cl = quest then (exNone, 6, 0) else (⟨rowBins d cells cells.length, clsP d cl⟩, 0, 0)
/-- What a row gives: an example, a reason, a place. -/
def rowOf (d : SchemaD) (row : ByteArray) : ExD × Int × Int :=
  if schemaB d = false then (exNone, 1, 0) else if 80 < row.size then (exNone, 2, 0)
  else if ¬ (parts row 124).length = 2 then (exNone, 3, 0)
  else if ¬ (parts ((parts row 124)[0]?.getD ByteArray.empty) 44).length = d.attrs.length then (exNone, 4, 0)
  else rowCells d (parts ((parts row 124)[0]?.getD ByteArray.empty) 44) ((parts row 124)[1]?.getD ByteArray.empty)
section
variable {d : SchemaD} {row : ByteArray}
theorem rowOf_schema (h : schemaB d = false) : rowOf d row = (exNone, 1, 0) := by unfold rowOf; rw [if_pos h]
theorem rowOf_long (h : schemaB d = true) (h2 : 80 < row.size) : rowOf d row = (exNone, 2, 0) := by unfold rowOf; rw [if_neg (by simp [h]), if_pos h2]
theorem rowOf_bar (h : schemaB d = true) (h2 : ¬ 80 < row.size) (h3 : ¬ (parts row 124).length = 2) : rowOf d row = (exNone, 3, 0) := by unfold rowOf; rw [if_neg (by simp [h]), if_neg h2, if_pos h3]
theorem rowOf_count (h : schemaB d = true) (h2 : ¬ 80 < row.size) (h3 : (parts row 124).length = 2) (h4 : ¬ (parts ((parts row 124)[0]?.getD ByteArray.empty) 44).length = d.attrs.length) : rowOf d row = (exNone, 4, 0) := by
  unfold rowOf; rw [if_neg (by simp [h]), if_neg h2, if_neg (by simp [h3]), if_pos h4]
theorem rowOf_cells (h : schemaB d = true) (h2 : ¬ 80 < row.size) (h3 : (parts row 124).length = 2) (h4 : (parts ((parts row 124)[0]?.getD ByteArray.empty) 44).length = d.attrs.length) : rowOf d row = rowCells d (parts ((parts row 124)[0]?.getD ByteArray.empty) 44) ((parts row 124)[1]?.getD ByteArray.empty) := by
  unfold rowOf; rw [if_neg (by simp [h]), if_neg h2, if_neg (by simp [h3]), if_neg (by simp [h4])]
end
theorem find_bad {p : Nat → Bool} {n k : Nat} (hk : k < n) (h : (List.range k).all p = true) (hb : p k = false) : (List.range n).find? (fun i => !p i) = some k := by
  rw [List.find?_range_eq_some]
  refine ⟨by simp [hb], by simpa using hk, fun j hj => ?_⟩
  rw [List.all_eq_true] at h
  simp [h j (by simpa using hj)]
theorem find_none {p : Nat → Bool} {n : Nat} (h : (List.range n).all p = true) : (List.range n).find? (fun i => !p i) = none := by
  rw [List.find?_eq_none]
  rw [List.all_eq_true] at h
  intro x hx
  simp [h x hx]
theorem rowCells_bad {d : SchemaD} {cells : List ByteArray} {cl : ByteArray} {k : Nat} (hk : k < cells.length) (h : (List.range k).all (rowOkAt d cells) = true) (hb : rowOkAt d cells k = false) : rowCells d cells cl = (exNone, 5, (k : Int)) := by
  unfold rowCells; rw [find_bad hk h hb]
theorem rowCells_cls {d : SchemaD} {cells : List ByteArray} {cl : ByteArray} (h : (List.range cells.length).all (rowOkAt d cells) = true) (h1 : clsP d cl < 0) (h2 : ¬ cl = quest) : rowCells d cells cl = (exNone, 6, 0) := by
  unfold rowCells; rw [find_none h]; simp only [if_pos (And.intro h1 h2)]
theorem rowCells_ok {d : SchemaD} {cells : List ByteArray} {cl : ByteArray} (h : (List.range cells.length).all (rowOkAt d cells) = true) (h1 : ¬ (clsP d cl < 0 ∧ ¬ cl = quest)) : rowCells d cells cl = (⟨rowBins d cells cells.length, clsP d cl⟩, 0, 0) := by
  unfold rowCells; rw [find_none h]; simp only [if_neg h1]
theorem quest_noword : wordB quest = false := by decide
theorem clsP_q {d : SchemaD} (h : schemaB d = true) : clsP d quest = -1 := by
  refine idxI_none fun x hx => ?_
  rw [decide_eq_false_iff_not]
  rintro rfl
  have := schemaB_words' h _ hx
  rw [quest_noword] at this
  cases this
theorem attr_at {d : SchemaD} (h : schemaB d = true) {i : Nat} (hi : i < d.attrs.length) : attrB (d.attrs[i]?.getD default) = true := by
  obtain ⟨-, -, -, h4⟩ := schemaB_parts h
  rw [getD_of_lt hi]
  exact h4 _ (List.getElem_mem hi)
/-- A row is read as a right example, or refused with one reason. -/
theorem rowOf_law (d : SchemaD) (row : ByteArray) :
    ((rowOf d row).2.1 = 0 ∧ (rowOf d row).2.2 = 0 ∧ exB d (rowOf d row).1 = true ∧ schemaB d = true) ∨
    ((rowOf d row).1 = exNone ∧ 1 ≤ (rowOf d row).2.1 ∧ (rowOf d row).2.1 ≤ 6 ∧ 0 ≤ (rowOf d row).2.2 ∧ ((rowOf d row).2.2 = 0 ∨ ((rowOf d row).2.1 = 5 ∧ (rowOf d row).2.2 < d.attrs.length)) ∧ ((rowOf d row).2.1 = 1 ↔ schemaB d = false)) := by
  rcases hs : schemaB d with _ | _
  · rw [rowOf_schema hs]
    exact .inr ⟨rfl, by simp, by simp, by simp, .inl rfl, by simp⟩
  · by_cases h2 : 80 < row.size
    · rw [rowOf_long hs h2]
      exact .inr ⟨rfl, by simp, by simp, by simp, .inl rfl, by simp⟩
    · by_cases h3 : (parts row 124).length = 2
      · by_cases h4 : (parts ((parts row 124)[0]?.getD ByteArray.empty) 44).length = d.attrs.length
        · rw [rowOf_cells hs h2 h3 h4]
          generalize hC : parts ((parts row 124)[0]?.getD ByteArray.empty) 44 = cells at *
          generalize (parts row 124)[1]?.getD ByteArray.empty = cl
          rcases ha : (List.range cells.length).find? (fun i => !rowOkAt d cells i) with _ | i
          · have hall : (List.range cells.length).all (rowOkAt d cells) = true := by
              rw [List.find?_eq_none] at ha
              rw [List.all_eq_true]
              intro x hx
              simpa using ha x hx
            by_cases h1 : clsP d cl < 0 ∧ ¬ cl = quest
            · rw [rowCells_cls hall h1.1 h1.2]
              exact .inr ⟨rfl, by simp, by simp, by simp, .inl rfl, by simp⟩
            · rw [rowCells_ok hall h1]
              refine .inl ⟨rfl, rfl, exB_all hs ?_ ?_ ?_, rfl⟩
              · show (rowBins d cells cells.length).length = _
                rw [rowBins_len, h4]
              · have := idxI_bd (fun y => decide (cl = y)) d.classes
                exact inB_iff.2 this
              · show (List.range (rowBins d cells cells.length).length).all _ = true
                rw [rowBins_len, List.all_eq_true]
                intro i hi
                have hi' : i < cells.length := by simpa using hi
                have e : (rowBins d cells cells.length)[i]?.getD 0 = (cellP (d.attrs[i]?.getD default) (cells[i]?.getD ByteArray.empty)).1 := by simp [rowBins, hi']
                unfold fitB
                rw [show (⟨rowBins d cells cells.length, clsP d cl⟩ : ExD).bins = rowBins d cells cells.length from rfl, e]
                exact inB_iff.2 (cellP_bd (attr_at hs (by omega)))
          · have hi := List.mem_of_find?_eq_some ha
            have hi' : i < cells.length := by simpa using hi
            have e : rowCells d cells cl = (exNone, 5, (i : Int)) := by unfold rowCells; rw [ha]
            rw [e]
            exact .inr ⟨rfl, by simp, by simp, by simp, .inr ⟨rfl, by simp only; omega⟩, by simp⟩
        · rw [rowOf_count hs h2 h3 h4]
          exact .inr ⟨rfl, by simp, by simp, by simp, .inl rfl, by simp⟩
      · rw [rowOf_bar hs h2 h3]
        exact .inr ⟨rfl, by simp, by simp, by simp, .inl rfl, by simp⟩

/-! An example's text is read as it was. -/
theorem ascB_three {l : List Int} (h : ascB l = true) (hn : l.length ≤ 3) {b : Nat} (hb : b < l.length) : binI l (l[b]?.getD 0) = b := by
  rw [ascB_iff] at h
  match l, hn with
  | [], _ => simp at hb
  | [x], _ =>
    obtain rfl : b = 0 := by simp at hb; omega
    simp [binI]
  | [x, y], _ =>
    have h0 := h 0 (by simp)
    simp at h0
    rcases (show b = 0 ∨ b = 1 by simp at hb; omega) with rfl | rfl
    · simp [binI, List.filter_cons]; omega
    · simp [binI, h0]
  | [x, y, z], _ =>
    have h0 := h 0 (by simp)
    have h1 := h 1 (by simp)
    simp at h0 h1
    rcases (show b = 0 ∨ b = 1 ∨ b = 2 by simp at hb; omega) with rfl | rfl | rfl
    · have e1 : ¬ y < x := by omega
      have e2 : ¬ z < x := by omega
      simp [binI, e1, e2]
    · have e2 : ¬ z < y := by omega
      simp [binI, h0, e2]
    · have e2 : x < z := by omega
      simp [binI, h1, e2]
  | _ :: _ :: _ :: _ :: _, hn => simp at hn
theorem ascB_last {l : List Int} (h : ascB l = true) (hn : l.length ≤ 3) (h0 : 0 < l.length) : binI l (l[l.length - 1]?.getD 0 + 1) = l.length := by
  rw [ascB_iff] at h
  match l, hn with
  | [], _ => simp at h0
  | [x], _ =>
    have e : x < x + 1 := by omega
    simp [binI, e]
  | [x, y], _ =>
    have h0 := h 0 (by simp)
    simp at h0
    have e1 : x < y + 1 := by omega
    have e2 : y < y + 1 := by omega
    simp [binI, e1, e2]
  | [x, y, z], _ =>
    have h0 := h 0 (by simp)
    have h1 := h 1 (by simp)
    simp at h0 h1
    have e1 : x < z + 1 := by omega
    have e2 : y < z + 1 := by omega
    have e3 : z < z + 1 := by omega
    simp [binI, e1, e2, e3]
  | _ :: _ :: _ :: _ :: _, hn => simp at hn
theorem idx_nodup {l : List ByteArray} (h : l.Nodup) {b : Nat} (hb : b < l.length) : idxI (fun y => decide ((l[b]?.getD ByteArray.empty) = y)) l = b := by
  refine idxI_hit ByteArray.empty hb (by simp) fun y hy => ?_
  rw [decide_eq_false_iff_not]
  rintro rfl
  rw [List.mem_take_iff_getElem] at hy
  obtain ⟨j, hj, e⟩ := hy
  rw [List.getElem?_eq_getElem hb, Option.getD_some] at e
  exact (List.pairwise_iff_getElem.1 (show l.Pairwise (· ≠ ·) from h)) j b (by omega) hb (by omega) e
theorem attrB_nodup {a : AttrD} (h : attrB a = true) (hc : a.cuts.length = 0) : a.vals.Nodup ∧ ∀ s ∈ a.vals, wordB s = true := by
  have h1 := attrB_few (attrB_word h) hc
  rw [h] at h1
  have h2 := h1.symm
  rw [Bool.and_eq_true] at h2
  unfold wordsB at h2
  rw [Bool.and_eq_true, List.all_eq_true, decide_eq_true_eq] at h2
  exact ⟨h2.2.2, h2.2.1⟩
theorem attrB_asc {a : AttrD} (h : attrB a = true) (hc : a.cuts.length ≠ 0) : ascB a.cuts = true := by
  have h1 := attrB_cuts (attrB_word h) hc
  rw [h] at h1
  have h2 := h1.symm
  rw [Bool.and_eq_true] at h2
  unfold cutsB at h2
  rw [Bool.and_eq_true, Bool.and_eq_true] at h2
  exact h2.2.2.1
theorem num_noq (x : Int) : ¬ numB x = quest := by
  intro h
  have := numB_bytes x 63 (by rw [h]; simp)
  simp at this
theorem word_noq {s : ByteArray} (h : wordB s = true) : ¬ s = quest := by
  rintro rfl
  rw [quest_noword] at h
  cases h
/-- A cell's text leads to its bin. -/
theorem cell_rt {a : AttrD} {b : Int} (h : attrB a = true) (hb : inB b (-1) (binsOf a - 1) = true) : cellP a (cellT a b) = (b, true) := by
  have hb2 := inB_iff.1 hb
  by_cases h1 : b = -1
  · rw [cellT_open h hb h1, cellP_q rfl, h1]
  · rcases attrB_parts h with ⟨g1, g2, g3, g4⟩ | ⟨g1, g2, g3, g4, g5⟩
    · obtain ⟨k1, k2⟩ := attrB_nodup h g1
      have hlt : b.toNat < a.vals.length := by omega
      have hw : wordB (a.vals[b.toNat]?.getD ByteArray.empty) = true := by
        rw [List.getElem?_eq_getElem hlt, Option.getD_some]; exact k2 _ (List.getElem_mem hlt)
      rw [cellT_val h hb h1 (by omega), cellP_val (word_noq hw) (by omega), idx_nodup k1 hlt]
      have : ((b.toNat : Nat) : Int) = b := by omega
      rw [this, decide_eq_true (by omega)]
    · have ha := attrB_asc h (by omega)
      by_cases hc : b < a.cuts.length
      · have hlt : b.toNat < a.cuts.length := by omega
        have hr := g5 _ hlt
        rw [cellT_cut h hb h1 (by omega) hc, cellP_cut (num_noq _) (by omega), rdS_num hr.1 (by omega)]
        simp only
        rw [ascB_three ha g3 hlt]
        congr 1
        omega
      · have hr := g5 (a.cuts.length - 1) (by omega)
        rw [cellT_end h hb h1 (by omega) hc, cellP_cut (num_noq _) (by omega), rdS_num (by omega) (by omega)]
        simp only
        rw [ascB_last ha g3 (by omega)]
        congr 1
        omega
theorem cell_off {a : AttrD} {b : Int} (h : attrB a = true) (hb : inB b (-1) (binsOf a - 1) = true) {d : UInt8} (hd : d = 44 ∨ d = 124) : offB d (cellT a b) := by
  have hb2 := inB_iff.1 hb
  have hq : offB d quest := off_one (by rcases hd with rfl | rfl <;> decide)
  have hn : ∀ x, offB d (numB x) := fun x => by rcases hd with rfl | rfl <;> exact num_off (by decide) (by decide)
  by_cases h1 : b = -1
  · rw [cellT_open h hb h1]; exact hq
  · rcases attrB_parts h with ⟨g1, g2, g3, g4⟩ | ⟨g1, g2, g3, g4, g5⟩
    · obtain ⟨k1, k2⟩ := attrB_nodup h g1
      have hlt : b.toNat < a.vals.length := by omega
      rw [cellT_val h hb h1 (by omega), List.getElem?_eq_getElem hlt, Option.getD_some]
      exact word_off (k2 _ (List.getElem_mem hlt)) (by rcases hd with rfl | rfl <;> decide)
    · by_cases hc : b < a.cuts.length
      · rw [cellT_cut h hb h1 (by omega) hc]; exact hn _
      · rw [cellT_end h hb h1 (by omega) hc]; exact hn _
theorem cell_small {a : AttrD} {b : Int} (h : attrB a = true) (hb : inB b (-1) (binsOf a - 1) = true) : (cellT a b).size ≤ 8 := by
  have hb2 := inB_iff.1 hb
  by_cases h1 : b = -1
  · rw [cellT_open h hb h1]; decide
  · rcases attrB_parts h with ⟨g1, g2, g3, g4⟩ | ⟨g1, g2, g3, g4, g5⟩
    · have hlt : b.toNat < a.vals.length := by omega
      rw [cellT_val h hb h1 (by omega), List.getElem?_eq_getElem hlt, Option.getD_some]
      exact (attrB_words h g1 _ (List.getElem_mem hlt)).2
    · by_cases hc : b < a.cuts.length
      · have hr := g5 b.toNat (by omega)
        rw [cellT_cut h hb h1 (by omega) hc]
        have := numB_size5 (v := a.cuts[b.toNat]?.getD 0) (by omega) (by omega) rfl
        omega
      · have hr := g5 (a.cuts.length - 1) (by omega)
        rw [cellT_end h hb h1 (by omega) hc]
        have := numB_size5 (v := a.cuts[a.cuts.length - 1]?.getD 0 + 1) (by omega) (by omega) rfl
        omega
theorem exB_at {d : SchemaD} {e : ExD} (h : exB d e = true) {i : Nat} (hi : i < d.attrs.length) : inB (e.bins[i]?.getD 0) (-1) (binsOf (d.attrs[i]?.getD default) - 1) = true := by
  obtain ⟨-, h2, -, h4⟩ := exB_parts h
  exact h4 i (by omega)
theorem clsT_rt {d : SchemaD} {e : ExD} (h : exB d e = true) : clsP d (clsT d e) = e.cls ∧ (e.cls < 0 → clsT d e = quest) ∧ offB 124 (clsT d e) := by
  obtain ⟨h1, -, h3, -⟩ := exB_parts h
  by_cases hc : 0 ≤ e.cls
  · have hlt : e.cls.toNat < d.classes.length := by omega
    have hn : d.classes.Nodup := by
      unfold schemaB at h1
      simp only [Bool.and_eq_true] at h1
      have h2 := h1.2.2.1
      unfold wordsB at h2
      rw [Bool.and_eq_true, decide_eq_true_eq] at h2
      exact h2.2
    unfold clsT
    rw [if_pos hc]
    refine ⟨?_, fun h => by omega, ?_⟩
    · unfold clsP
      rw [idx_nodup hn hlt]; omega
    · rw [List.getElem?_eq_getElem hlt, Option.getD_some]
      exact word_off (schemaB_words' h1 _ (List.getElem_mem hlt)) (by decide)
  · unfold clsT
    rw [if_neg hc]
    refine ⟨?_, fun _ => rfl, off_one (by decide)⟩
    rw [show (⟨#[63]⟩ : ByteArray) = quest from rfl, clsP_q h1]; omega
theorem exT_pos {d : SchemaD} {e : ExD} (h : exB d e = true) : ¬ exT d e = ⟨#[]⟩ := by
  intro h2
  rw [exT_yes h] at h2
  have := congrArg ByteArray.size h2
  rw [ByteArray.size_append, ByteArray.size_append] at this
  have e1 : (⟨#[124]⟩ : ByteArray).size = 1 := rfl
  have e2 : (⟨#[]⟩ : ByteArray).size = 0 := rfl
  omega
theorem rowOf_rt {d : SchemaD} {e : ExD} (h : exB d e = true) : rowOf d (exT d e) = (e, 0, 0) := by
  obtain ⟨h1, h2, h3, h4⟩ := exB_parts h
  obtain ⟨hb1, -, -, -⟩ := schemaB_parts h1
  obtain ⟨c1, c2, c3⟩ := clsT_rt h
  have hat : ∀ p ∈ cellsT d e e.bins.length, ∃ i, i < d.attrs.length ∧ p = cellT (d.attrs[i]?.getD default) (e.bins[i]?.getD 0) := by
    intro p hp
    unfold cellsT at hp
    obtain ⟨i, hi, rfl⟩ := List.mem_map.1 hp
    exact ⟨i, by have := List.mem_range.1 hi; omega, rfl⟩
  have hlen := cellsT_len d e e.bins.length
  have p1 : parts (exT d e) 124 = [joinB (cellsT d e e.bins.length) ⟨#[44]⟩, clsT d e] := by
    rw [exT_yes h]
    refine parts_two (b := 124) (off_joinB (by decide) fun p hp => ?_) c3
    obtain ⟨i, hi, rfl⟩ := hat p hp
    exact cell_off (attr_at h1 hi) (exB_at h hi) (.inr rfl)
  have p2 : parts (joinB (cellsT d e e.bins.length) ⟨#[44]⟩) 44 = cellsT d e e.bins.length := by
    refine parts_joinB (b := 44) (by omega) fun p hp => ?_
    obtain ⟨i, hi, rfl⟩ := hat p hp
    exact cell_off (attr_at h1 hi) (exB_at h hi) (.inl rfl)
  have hsz : ¬ 80 < (exT d e).size := by
    rw [exT_yes h, ByteArray.size_append, ByteArray.size_append]
    have k1 := joinB_size (l := cellsT d e e.bins.length) (sep := ⟨#[44]⟩) (M := 8) fun p hp => by
      obtain ⟨i, hi, rfl⟩ := hat p hp
      exact cell_small (attr_at h1 hi) (exB_at h hi)
    have k2 := clsT_size h
    have e1 : (⟨#[44]⟩ : ByteArray).size = 1 := rfl
    have e2 : (⟨#[124]⟩ : ByteArray).size = 1 := rfl
    rw [hlen, e1] at k1
    omega
  rw [rowOf_cells h1 hsz (by rw [p1]; rfl) (by rw [p1]; simp only [List.getElem?_cons_zero, Option.getD_some]; rw [p2, hlen, h2]), p1]
  simp only [List.getElem?_cons_zero, List.getElem?_cons_succ, Option.getD_some]
  rw [p2]
  have hcell : ∀ i, i < e.bins.length → cellP (d.attrs[i]?.getD default) ((cellsT d e e.bins.length)[i]?.getD ByteArray.empty) = (e.bins[i]?.getD 0, true) := by
    intro i hi
    have e1 : (cellsT d e e.bins.length)[i]?.getD ByteArray.empty = cellT (d.attrs[i]?.getD default) (e.bins[i]?.getD 0) := by simp [cellsT, hi]
    rw [e1]
    exact cell_rt (attr_at h1 (by omega)) (exB_at h (by omega))
  rw [rowCells_ok ?_ ?_]
  · rw [hlen, c1]
    have e2 : rowBins d (cellsT d e e.bins.length) e.bins.length = e.bins := by
      apply List.ext_getElem?
      intro i
      rcases Nat.lt_or_ge i e.bins.length with hi | hi
      · unfold rowBins
        rw [List.getElem?_map, List.getElem?_range hi, Option.map_some, hcell i hi, List.getElem?_eq_getElem hi]
        rfl
      · rw [List.getElem?_eq_none (by rw [rowBins_len]; exact hi), List.getElem?_eq_none hi]
    rw [e2]
  · rw [hlen, List.all_eq_true]
    intro i hi
    unfold rowOkAt
    rw [hcell i (List.mem_range.1 hi)]
  · rw [c1]
    rintro ⟨k1, k2⟩
    exact k2 (c2 k1)
end Go.Proofs.YtohodehmidbmlaaDoor
namespace Go.Proofs.YtohodehmidbmlaaDoor
open Go.RowKit
set_option maxRecDepth 100000

theorem Bag.cat2 {B B' N M : Nat} {w : World} {r s : Nat → Row} (h : Bag B N w r) (hs : Bag B' M w s) (hB : B ≤ B') (hlt : ∀ k, has N r k → k < B') : Bag B (N + M) w (rcat N r s) := by
  have h2 := hs.mono hB
  have key : ∀ i j, i < N → j < M → (r i).apart (s j) := by
    intro i j hi hj
    unfold Row.apart
    rcases e1 : (r i).blk with _ | g
    · exact .inl rfl
    · refine .inr fun e => ?_
      have k1 := hlt g ⟨i, hi, e1⟩
      have k2 := ((hs.own j hj).lt g e.symm).1
      omega
  refine ⟨fun i hi => ?_, fun i j hi hj hij => ?_⟩
  · unfold rcat
    split
    · exact h.own i (by omega)
    · exact h2.own (i - N) (by omega)
  · unfold rcat
    split <;> split
    · exact h.sep i j (by omega) (by omega) hij
    · exact key i (j - N) (by omega) (by omega)
    · exact (key j (i - N) (by omega) (by omega)).symm
    · exact hs.sep (i - N) (j - N) (by omega) (by omega) (by omega)
/-- The rows of one attribute. -/
abbrev attrRows (D1 : Option Addr) (n1 m1 : Nat) (D2 : Option Addr) (n2 m2 : Nat) (a : AttrD) : Nat → Row := rpair (intRow D1 n1 m1 a.cuts) (strRow D2 n2 m2 a.vals)
/-- One attribute more at the end of attributes that own themselves. -/
theorem AttrsTo.snoc {B B' : Nat} {w1 w2 : World} {r : Nat → Row} {A D1 D2 : Option Addr} {n c n1 m1 n2 m2 : Nat} {ls : List AttrD} {a : AttrD} {v : Value}
    (h : AttrsTo r A n c ls n) (hb : Bag B (1 + 2 * n) w1 r) (ho : Bag B' 2 w1 (attrRows D1 n1 m1 D2 n2 m2 a)) (hB : B ≤ B') (hlt : ∀ k, has (1 + 2 * n) r k → k < B') (hB2 : B' ≤ w1.heap.size)
    (hv : w2.ownsRow B 64 3 v (n + 1) ((r 0).xs ++ [.string a.name, .slice D1 n1 m1, .slice D2 n2 m2])) (hg : w1.grownBy w2 (Value.ownBlock (.slice A n c)))
    (hnew : ∀ g, v.ownBlock = some g → Value.ownBlock (.slice A n c) = some g ∨ w1.heap.size ≤ g) :
    ∃ A2 c2 r', v = .slice A2 (n + 1) c2 ∧ Bag B (1 + 2 * (n + 1)) w2 r' ∧ AttrsTo r' A2 (n + 1) c2 (ls ++ [a]) (n + 1) ∧ ∀ k, has (1 + 2 * (n + 1)) r' k → has (1 + 2 * n) r k ∨ B' ≤ k := by
  have h1 := hb.cat2 ho hB hlt
  obtain ⟨e1, e2, e3, e4⟩ := h.head
  have hO := h.outer hb (by omega)
  have hxl : (r 0).xs.length = n * 3 := hO.1
  have hln := h.len
  obtain ⟨s, hs⟩ : ∃ s, s = rcat (1 + 2 * n) r (attrRows D1 n1 m1 D2 n2 m2 a) := ⟨_, rfl⟩
  rw [← hs] at h1
  have s0 : s 0 = r 0 := by rw [hs]; unfold rcat; rw [if_pos (by omega)]
  have sold : ∀ i, i < 1 + 2 * n → s i = r i := fun i hi => by rw [hs]; unfold rcat; rw [if_pos hi]
  have sn1 : s (1 + 2 * n) = intRow D1 n1 m1 a.cuts := by rw [hs]; unfold rcat attrRows rpair; rw [if_neg (by omega), if_pos (by omega)]
  have sn2 : s (2 + 2 * n) = strRow D2 n2 m2 a.vals := by rw [hs]; unfold rcat attrRows rpair; rw [if_neg (by omega), if_neg (by omega)]
  obtain ⟨A2, c2, rfl⟩ := own_shape hv
  have hblk : (s 0).blk = Value.ownBlock (.slice A n c) := by rw [s0]; unfold Row.blk; rw [e3]
  obtain ⟨t, ht⟩ : ∃ t : Row, t = ⟨64, 3, .slice A2 (n + 1) c2, n + 1, (r 0).xs ++ [.string a.name, .slice D1 n1 m1, .slice D2 n2 m2]⟩ := ⟨_, rfl⟩
  have hv' : t.own B w2 := by rw [ht]; exact hv
  have h2 := h1.turn (i := 0) (s := t) (by omega) (by rw [hblk]; exact hg) hv' (by rw [hblk, ht]; exact hnew)
  rw [show 1 + 2 * n + 2 = 1 + 2 * (n + 1) by omega] at h2
  refine ⟨A2, c2, _, rfl, h2, ⟨by simp [hln], by rw [rput_same, ht]; exact ⟨rfl, rfl, rfl, rfl⟩, fun i hi => ?_⟩, ?_⟩
  · rw [rput_same, ht, rput_other _ _ (show 1 + 2 * i ≠ 0 by omega), rput_other _ _ (show 2 + 2 * i ≠ 0 by omega)]
    by_cases e : i = n
    · subst e
      have ea : (ls ++ [a])[i]?.getD default = a := by rw [hln, List.getElem?_append_right (Nat.le_refl _), Nat.sub_self]; rfl
      rw [ea]
      refine ⟨D1, n1, m1, D2, n2, m2, ?_, ?_, ?_, sn1, sn2⟩
      · show ((r 0).xs ++ _)[i * 3]? = _
        rw [List.getElem?_append_right (by omega), hxl, Nat.sub_self]; rfl
      · show ((r 0).xs ++ _)[i * 3 + 1]? = _
        rw [List.getElem?_append_right (by omega), hxl, show i * 3 + 1 - i * 3 = 1 by omega]; rfl
      · show ((r 0).xs ++ _)[i * 3 + 2]? = _
        rw [List.getElem?_append_right (by omega), hxl, show i * 3 + 2 - i * 3 = 2 by omega]; rfl
    · obtain ⟨A1, n1', c1, A2', n2', c2', k0, k1, k2, k3, k4⟩ := h.rows i (by omega)
      have ea : (ls ++ [a])[i]?.getD default = ls[i]?.getD default := by rw [List.getElem?_append_left (by omega)]
      rw [ea]
      refine ⟨A1, n1', c1, A2', n2', c2', ?_, ?_, ?_, by rw [sold _ (by omega)]; exact k3, by rw [sold _ (by omega)]; exact k4⟩
      · show ((r 0).xs ++ _)[i * 3]? = _
        rw [List.getElem?_append_left (by omega)]; exact k0
      · show ((r 0).xs ++ _)[i * 3 + 1]? = _
        rw [List.getElem?_append_left (by omega)]; exact k1
      · show ((r 0).xs ++ _)[i * 3 + 2]? = _
        rw [List.getElem?_append_left (by omega)]; exact k2
  · rintro k ⟨i, hi, e⟩
    by_cases q : i = 0
    · subst q
      rw [rput_same, ht] at e
      rcases hnew k e with k1 | k1
      · exact .inl ⟨0, by omega, by rw [← s0, hblk]; exact k1⟩
      · exact .inr (Nat.le_trans hB2 k1)
    · rw [rput_other _ _ q] at e
      by_cases q2 : i < 1 + 2 * n
      · exact .inl ⟨i, q2, by rw [← sold i q2]; exact e⟩
      · rcases (show i = 1 + 2 * n ∨ i = 2 + 2 * n by omega) with rfl | rfl
        · rw [sn1] at e
          exact .inr ((ho.own 0 (by omega)).lt k e).1
        · rw [sn2] at e
          exact .inr ((ho.own 1 (by omega)).lt k e).1
/-- A schema in the making. -/
structure SchP (B : Nat) (w : World) (A : Option Addr) (n c : Nat) (D : Option Addr) (m k : Nat) (r : Nat → Row) (d : SchemaD) : Prop where
  bag : Bag B (1 + 2 * n) w r
  to : AttrsTo r A n c d.attrs n
  cls : w.ownsRow B 9 1 (.slice D m k) m (d.classes.map Value.string)
  sep : ∀ g, Value.ownBlock (.slice D m k) = some g → ¬ has (1 + 2 * n) r g
  b1 : n ≤ 1048576
  b2 : m ≤ 1048576
  s1 : ∀ a ∈ d.attrs, attrSmall a
  s2 : ∀ s ∈ d.classes, s.size ≤ 1048576
section
variable {B : Nat} {w w' : World} {A D : Option Addr} {n c m k : Nat} {r : Nat → Row} {d : SchemaD}
theorem SchP.only {S : Nat → Prop} (h : SchP B w A n c D m k r d) (ho : Only S w w') (hs : ∀ k, S k → k < B) : SchP B w' A n c D m k r d :=
  ⟨h.bag.only ho fun j hj hS => by have := (h.bag.lt hj).1; have := hs j hS; omega, h.to, own_only h.cls ho fun j hj hS => by have := (h.cls.lt j hj).1; have := hs j hS; omega, h.sep, h.b1, h.b2, h.s1, h.s2⟩
theorem SchP.below (h : SchP B w A n c D m k r d) (hb : Below w.heap.size w w') : SchP B w' A n c D m k r d := ⟨h.bag.below hb, h.to, own_below h.cls hb, h.sep, h.b1, h.b2, h.s1, h.s2⟩
theorem SchP.mono {B' : Nat} (h : SchP B w A n c D m k r d) (hB : B' ≤ B) : SchP B' w A n c D m k r d :=
  ⟨h.bag.mono hB, h.to, (by
    have := (Bag.one (s := strRow D m k d.classes) h.cls).mono hB
    exact this.own 0 (by omega)), h.sep, h.b1, h.b2, h.s1, h.s2⟩
theorem SchP.o (h : SchP B w A n c D m k r d) : SchemaO B w.heap.size w (.slice A n c) (.slice D m k) d := by
  have hbag : Bag B (2 + 2 * n) w (rput r (1 + 2 * n) (strRow D m k d.classes)) := by
    have hap : ∀ i, i < 1 + 2 * n → (strRow D m k d.classes).apart (r i) := by
      intro i hi
      unfold Row.apart
      rcases hb : (strRow D m k d.classes).blk with _ | g
      · exact .inl rfl
      · exact .inr fun e => h.sep g hb ⟨i, hi, e.symm⟩
    refine ⟨fun i hi => ?_, fun i j hi hj hij => ?_⟩
    · by_cases e : i = 1 + 2 * n
      · subst e; rw [rput_same]; exact h.cls
      · rw [rput_other _ _ e]; exact h.bag.own i (by omega)
    · by_cases e : i = 1 + 2 * n
      · subst e
        rw [rput_same, rput_other _ _ (Ne.symm hij)]
        exact hap j (by omega)
      · rw [rput_other _ _ e]
        by_cases e2 : j = 1 + 2 * n
        · subst e2
          rw [rput_same]
          exact (hap i (by omega)).symm
        · rw [rput_other _ _ e2]
          exact h.bag.sep i j (by omega) (by omega) hij
  exact ⟨A, n, c, D, m, k, _, rfl, rfl, hbag, rput_same _ _ _, h.to.congr fun i hi => rput_other _ _ (by omega), h.b1, h.b2, h.s1, h.s2, fun k hk => (hbag.lt hk).2⟩
/-- One attribute more. -/
theorem SchP.attr {B' : Nat} {w2 : World} {D1 D2 : Option Addr} {n1 m1 n2 m2 : Nat} {a : AttrD} {v : Value} (h : SchP B w A n c D m k r d)
    (ho : Bag B' 2 w (attrRows D1 n1 m1 D2 n2 m2 a)) (hB : B ≤ B') (hB2 : B' ≤ w.heap.size) (hlt : ∀ j, has (1 + 2 * n) r j → j < B') (hlt2 : ∀ g, Value.ownBlock (.slice D m k) = some g → g < B')
    (hv : w2.ownsRow B 64 3 v (n + 1) ((r 0).xs ++ [.string a.name, .slice D1 n1 m1, .slice D2 n2 m2])) (hg : w.grownBy w2 (Value.ownBlock (.slice A n c)))
    (hnew : ∀ g, v.ownBlock = some g → Value.ownBlock (.slice A n c) = some g ∨ w.heap.size ≤ g) (hn : n + 1 ≤ 1048576) (hs : attrSmall a) :
    ∃ A2 c2 r', v = .slice A2 (n + 1) c2 ∧ SchP B w2 A2 (n + 1) c2 D m k r' ⟨d.attrs ++ [a], d.classes⟩ ∧ ∀ k, has (1 + 2 * (n + 1)) r' k → has (1 + 2 * n) r k ∨ B' ≤ k := by
  obtain ⟨A2, c2, r', rfl, hb, ht, hh⟩ := h.to.snoc h.bag ho hB hlt hB2 hv hg hnew
  refine ⟨A2, c2, r', rfl, ⟨hb, ht, ?_, fun g hg2 hr => ?_, hn, h.b2, fun x hx => ?_, h.s2⟩, hh⟩
  · refine h.cls.kept hg ?_
    rcases hbk : Value.ownBlock (.slice D m k) with _ | g
    · exact .inl rfl
    · refine .inr fun e => h.sep g hbk ⟨0, by omega, ?_⟩
      unfold Row.blk
      rw [h.to.head.2.2.1]
      exact e.symm
  · rcases hh g hr with h1 | h1
    · exact h.sep g hg2 h1
    · have := hlt2 g hg2
      omega
  · simp only [List.mem_append, List.mem_singleton] at hx
    rcases hx with hx | rfl
    · exact h.s1 x hx
    · exact hs
/-- One class more. -/
theorem SchP.word {w2 : World} {s : ByteArray} {v : Value} (h : SchP B w A n c D m k r d)
    (hv : w2.ownsRow B 9 1 v (m + 1) (d.classes.map Value.string ++ [.string s])) (hg : w.grownBy w2 (Value.ownBlock (.slice D m k)))
    (hnew : ∀ g, v.ownBlock = some g → Value.ownBlock (.slice D m k) = some g ∨ w.heap.size ≤ g) (hm : m + 1 ≤ 1048576) (hs : s.size ≤ 1048576) :
    ∃ D2 k2, v = .slice D2 (m + 1) k2 ∧ SchP B w2 A n c D2 (m + 1) k2 r ⟨d.attrs, d.classes ++ [s]⟩ := by
  obtain ⟨D2, k2, rfl⟩ := own_shape hv
  refine ⟨D2, k2, rfl, ⟨fun i hi => ?_, h.bag.sep⟩, h.to, by simpa using hv, fun g hg2 hr => ?_, h.b1, hm, h.s1, fun x hx => ?_⟩
  · refine (h.bag.own i hi).kept hg ?_
    rcases hbk : (r i).blk with _ | g
    · exact .inl hbk
    · exact .inr fun e => h.sep g (e.symm.trans hbk) ⟨i, hi, hbk⟩
  · rcases hnew g hg2 with h1 | h1
    · exact h.sep g h1 hr
    · have := (h.bag.lt hr).2
      omega
  · simp only [List.mem_append, List.mem_singleton] at hx
    rcases hx with hx | rfl
    · exact h.s2 x hx
    · exact hs
/-- The first class alone. -/
theorem SchP.first (h : SchP B w A n c D m k r d) (hm : 1 ≤ m) : SchP B w A n c D 1 k r ⟨d.attrs, d.classes.take 1⟩ := by
  refine ⟨h.bag, h.to, ?_, fun g hg => h.sep g (by cases D <;> exact hg), h.b1, by omega, h.s1, fun s hs => h.s2 s (List.mem_of_mem_take hs)⟩
  obtain ⟨h1, h2⟩ := h.cls
  have hlen : d.classes.length = m := by simpa using h1
  refine ⟨by simp; omega, ?_⟩
  rcases h2 with ⟨-, h0⟩ | ⟨g, cap, cur, e, hb, hgg, hle, hmx, hsz, htk⟩
  · omega
  · injection e with e1 e2 e3
    subst e1 e3
    refine .inr ⟨g, k, cur, rfl, hb, hgg, by omega, hmx, hsz, ?_⟩
    rw [List.map_take, ← htk, List.take_take]
    congr 1
    omega
/-- No attributes: an empty slice of its own. -/
theorem SchP.none_ (h : SchP B w A n c D m k r d) (hB : B ≤ w.heap.size) :
    SchP B (w.alloc (.cells #[] 64)) (some ⟨w.heap.size, 0, none⟩) 0 0 D m k (fun _ => ⟨64, 3, .slice (some ⟨w.heap.size, 0, none⟩) 0 0, 0, []⟩) ⟨[], d.classes⟩ := by
  have ho := own_empty w B 64 3 hB
  refine ⟨Bag.one (s := ⟨64, 3, .slice (some ⟨w.heap.size, 0, none⟩) 0 0, 0, []⟩) ho, ⟨rfl, ⟨rfl, rfl, rfl, rfl⟩, fun i hi => by omega⟩, h.cls.alloc _, fun g hg hr => ?_, by omega, h.b2, by simp, h.s2⟩
  obtain ⟨i, -, e⟩ := hr
  have e2 : some w.heap.size = some g := e
  injection e2 with e2
  have := (h.cls.lt g hg).2
  omega
end
end Go.Proofs.YtohodehmidbmlaaDoor
namespace Go.Proofs.YtohodehmidbmlaaDoor
open Go.RowKit
set_option maxRecDepth 100000

theorem grown_below {w w' : World} {row : Option Nat} (h : Below w.heap.size w w') : w.grownBy w' row := ⟨h.os, h.tape, h.output, h.size, fun k hk _ => h.block k hk⟩
section
variable {B : Nat} {w w2 : World} {A1 A2 : Option Addr} {n1 c1 n2 c2 : Nat} {a : AttrD}
theorem attr_start (w : World) (B : Nat) (nm : ByteArray) : Bag B 2 w (attrRows none 0 0 none 0 0 ⟨nm, [], []⟩) := by
  refine ⟨fun i hi => ?_, fun i j hi hj hij => ?_⟩
  · rcases (show i = 0 ∨ i = 1 by omega) with rfl | rfl
    · exact World.ownsRow_nil _ _ _ _
    · exact World.ownsRow_nil _ _ _ _
  · rcases (show i = 0 ∨ i = 1 by omega) with rfl | rfl
    · exact .inl rfl
    · exact .inl rfl
theorem rput_cuts (s : Row) (t u : Row) : rput (rpair s t) 0 u = rpair u t := by
  funext j
  unfold rput rpair
  by_cases e : j = 0 <;> simp [e]
theorem attrRows_cong {r : Nat → Row} {N : Nat} {s : Nat → Row} (h : Bag B N w r) (e : ∀ i, i < N → s i = r i) : Bag B N w s := h.congr e
theorem attr_turn1 {A1' : Option Addr} {n1' c1' : Nat} {l : List Int} (h : Bag B 2 w (attrRows A1 n1 c1 A2 n2 c2 a)) (hv : w2.ownsRow B 3 1 (.slice A1' n1' c1') n1' (l.map (Value.int .i64)))
    (hg : w.grownBy w2 (Value.ownBlock (.slice A1 n1 c1))) (hnew : ∀ g, Value.ownBlock (.slice A1' n1' c1') = some g → Value.ownBlock (.slice A1 n1 c1) = some g ∨ w.heap.size ≤ g) (nm : ByteArray) :
    Bag B 2 w2 (attrRows A1' n1' c1' A2 n2 c2 ⟨nm, l, a.vals⟩) :=
  (h.turn (i := 0) (s := intRow A1' n1' c1' l) (by omega) hg hv hnew).congr fun i hi => by
    rcases (show i = 0 ∨ i = 1 by omega) with rfl | rfl
    · rw [rput_same]; rfl
    · rw [rput_other _ _ (by omega)]; rfl
theorem attr_turn2 {A2' : Option Addr} {n2' c2' : Nat} {l : List ByteArray} (h : Bag B 2 w (attrRows A1 n1 c1 A2 n2 c2 a)) (hv : w2.ownsRow B 9 1 (.slice A2' n2' c2') n2' (l.map Value.string))
    (hg : w.grownBy w2 (Value.ownBlock (.slice A2 n2 c2))) (hnew : ∀ g, Value.ownBlock (.slice A2' n2' c2') = some g → Value.ownBlock (.slice A2 n2 c2) = some g ∨ w.heap.size ≤ g) (nm : ByteArray) :
    Bag B 2 w2 (attrRows A1 n1 c1 A2' n2' c2' ⟨nm, a.cuts, l⟩) :=
  (h.turn (i := 1) (s := strRow A2' n2' c2' l) (by omega) hg hv hnew).congr fun i hi => by
    rcases (show i = 0 ∨ i = 1 by omega) with rfl | rfl
    · rw [rput_other _ _ (by omega)]; rfl
    · rw [rput_same]; rfl
/-- One cut more. -/
theorem attr_cut {v : Value} {x : Int} (h : Bag B 2 w (attrRows A1 n1 c1 A2 n2 c2 a)) (hv : w2.ownsRow B 3 1 v (n1 + 1) (a.cuts.map (Value.int .i64) ++ [.int .i64 x]))
    (hg : w.grownBy w2 (Value.ownBlock (.slice A1 n1 c1))) (hnew : ∀ g, v.ownBlock = some g → Value.ownBlock (.slice A1 n1 c1) = some g ∨ w.heap.size ≤ g) :
    ∃ A1' c1', v = .slice A1' (n1 + 1) c1' ∧ Bag B 2 w2 (attrRows A1' (n1 + 1) c1' A2 n2 c2 ⟨a.name, a.cuts ++ [x], a.vals⟩) := by
  obtain ⟨D, m, rfl⟩ := own_shape hv
  exact ⟨D, m, rfl, attr_turn1 h (by simpa using hv) hg hnew _⟩
/-- One value more. -/
theorem attr_val {v : Value} {x : ByteArray} (h : Bag B 2 w (attrRows A1 n1 c1 A2 n2 c2 a)) (hv : w2.ownsRow B 9 1 v (n2 + 1) (a.vals.map Value.string ++ [.string x]))
    (hg : w.grownBy w2 (Value.ownBlock (.slice A2 n2 c2))) (hnew : ∀ g, v.ownBlock = some g → Value.ownBlock (.slice A2 n2 c2) = some g ∨ w.heap.size ≤ g) :
    ∃ A2' c2', v = .slice A2' (n2 + 1) c2' ∧ Bag B 2 w2 (attrRows A1 n1 c1 A2' (n2 + 1) c2' ⟨a.name, a.cuts, a.vals ++ [x]⟩) := by
  obtain ⟨D, m, rfl⟩ := own_shape hv
  exact ⟨D, m, rfl, attr_turn2 h (by simpa using hv) hg hnew _⟩
/-- Cuts, values made anew. -/
theorem attr_cuts_set {B' : Nat} {A1' : Option Addr} {n1' c1' : Nat} {l : List Int} (h : Bag B 2 w (attrRows A1 n1 c1 A2 n2 c2 a)) (hb : Below w.heap.size w w2) (hB : B ≤ B') (hw : w.heap.size ≤ B')
    (hv : w2.ownsRow B' 3 1 (.slice A1' n1' c1') n1' (l.map (Value.int .i64))) (nm : ByteArray) : Bag B 2 w2 (attrRows A1' n1' c1' A2 n2 c2 ⟨nm, l, a.vals⟩) :=
  attr_turn1 h (((Bag.one (s := intRow A1' n1' c1' l) hv).mono hB).own 0 (by omega)) (grown_below hb) (fun g hg => .inr (Nat.le_trans hw (hv.lt g hg).1)) nm
theorem attr_vals_set {B' : Nat} {A2' : Option Addr} {n2' c2' : Nat} {l : List ByteArray} (h : Bag B 2 w (attrRows A1 n1 c1 A2 n2 c2 a)) (hb : Below w.heap.size w w2) (hB : B ≤ B') (hw : w.heap.size ≤ B')
    (hv : w2.ownsRow B' 9 1 (.slice A2' n2' c2') n2' (l.map Value.string)) (nm : ByteArray) : Bag B 2 w2 (attrRows A1 n1 c1 A2' n2' c2' ⟨nm, a.cuts, l⟩) :=
  attr_turn2 h (((Bag.one (s := strRow A2' n2' c2' l) hv).mono hB).own 0 (by omega)) (grown_below hb) (fun g hg => .inr (Nat.le_trans hw (hv.lt g hg).1)) nm
theorem attr_own1 (h : Bag B 2 w (attrRows A1 n1 c1 A2 n2 c2 a)) : w.ownsRow B 3 1 (.slice A1 n1 c1) n1 (a.cuts.map (Value.int .i64)) := h.own 0 (by omega)
theorem attr_own2 (h : Bag B 2 w (attrRows A1 n1 c1 A2 n2 c2 a)) : w.ownsRow B 9 1 (.slice A2 n2 c2) n2 (a.vals.map Value.string) := h.own 1 (by omega)
theorem attr_m (h : Bag B 2 w (attrRows A1 n1 c1 A2 n2 c2 a)) (hs : attrSmall a) : AttrM w A1 n1 c1 A2 n2 c2 a := by
  obtain ⟨q1, q2, q3, q4⟩ := hs
  have o1 := attr_own1 h
  have o2 := attr_own2 h
  have z1 := (ints_of o1).1
  have z2 := (strs_of o2).1
  exact ⟨ints_of o1, strs_of o2, q1, q2, by omega, by omega, own_cap o2⟩
end

/-- A struct of three cells in block b. -/
structure BoxA (w : World) (b : Nat) (x y z : Value) : Prop where
  c0 : w.cell? ⟨b, 0, none⟩ = some x
  c1 : w.cell? ⟨b, 1, none⟩ = some y
  c2 : w.cell? ⟨b, 2, none⟩ = some z
  f0 : w.frozen? ⟨b, 0, none⟩ = false
  f1 : w.frozen? ⟨b, 1, none⟩ = false
  f2 : w.frozen? ⟨b, 2, none⟩ = false
  lt : b < w.heap.size
theorem BoxA.new (w : World) (x y z : Value) (t : TypeId) : BoxA (w.alloc (.cells #[x, y, z] t)) w.heap.size x y z :=
  ⟨by go_simp, by go_simp, by go_simp, by go_simp, by go_simp, by go_simp, by simp⟩
section
variable {w w' : World} {b : Nat} {x y z : Value}
theorem BoxA.only {S : Nat → Prop} (h : BoxA w b x y z) (ho : Only S w w') (hS : ¬ S b) : BoxA w' b x y z := by
  have hk := ho.block b h.lt hS
  have e : ∀ o, w'.cell? ⟨b, o, none⟩ = w.cell? ⟨b, o, none⟩ := fun o => World.cell?_of_block (w := w) (a := ⟨b, o, none⟩) hk
  have f : ∀ o, w'.frozen? ⟨b, o, none⟩ = w.frozen? ⟨b, o, none⟩ := fun o => World.frozen?_of_block (w := w) (a := ⟨b, o, none⟩) hk
  exact ⟨(e 0).trans h.c0, (e 1).trans h.c1, (e 2).trans h.c2, (f 0).trans h.f0, (f 1).trans h.f1, (f 2).trans h.f2, Nat.lt_of_lt_of_le h.lt ho.size⟩
theorem BoxA.keep (h : BoxA w b x y z) (hb : Below w.heap.size w w') : BoxA w' b x y z := h.only (S := fun _ => False) (Only.of_below hb) (fun h => h)
theorem BoxA.low {B : Nat} (h : BoxA w b x y z) (hb : Below B w w') (hB : b < B) : BoxA w' b x y z :=
  h.only (S := fun j => B ≤ j) ⟨hb.os, hb.tape, hb.output, hb.size, fun k _ hk => hb.block k (by omega)⟩ (by omega)
theorem BoxA.set0 (h : BoxA w b x y z) (u : Value) : BoxA (w.setCell ⟨b, 0, none⟩ u) b u y z := by
  obtain ⟨h0, h1, h2, g0, g1, g2, hl⟩ := h
  exact ⟨by go_simp, by go_simp, by go_simp, by go_simp, by go_simp, by go_simp, by simpa using hl⟩
theorem BoxA.set1 (h : BoxA w b x y z) (u : Value) : BoxA (w.setCell ⟨b, 1, none⟩ u) b x u z := by
  obtain ⟨h0, h1, h2, g0, g1, g2, hl⟩ := h
  exact ⟨by go_simp, by go_simp, by go_simp, by go_simp, by go_simp, by go_simp, by simpa using hl⟩
theorem BoxA.set2 (h : BoxA w b x y z) (u : Value) : BoxA (w.setCell ⟨b, 2, none⟩ u) b x y u := by
  obtain ⟨h0, h1, h2, g0, g1, g2, hl⟩ := h
  exact ⟨by go_simp, by go_simp, by go_simp, by go_simp, by go_simp, by go_simp, by simpa using hl⟩
end
/-- A struct of two cells in block b, writable. -/
structure BoxW (w : World) (b : Nat) (x y : Value) : Prop where
  c0 : w.cell? ⟨b, 0, none⟩ = some x
  c1 : w.cell? ⟨b, 1, none⟩ = some y
  f0 : w.frozen? ⟨b, 0, none⟩ = false
  f1 : w.frozen? ⟨b, 1, none⟩ = false
  lt : b < w.heap.size
theorem BoxW.new (w : World) (x y : Value) (t : TypeId) : BoxW (w.alloc (.cells #[x, y] t)) w.heap.size x y :=
  ⟨by go_simp, by go_simp, by go_simp, by go_simp, by simp⟩
section
variable {w w' : World} {b : Nat} {x y : Value}
theorem BoxW.only {S : Nat → Prop} (h : BoxW w b x y) (ho : Only S w w') (hS : ¬ S b) : BoxW w' b x y := by
  have hk := ho.block b h.lt hS
  have e : ∀ o, w'.cell? ⟨b, o, none⟩ = w.cell? ⟨b, o, none⟩ := fun o => World.cell?_of_block (w := w) (a := ⟨b, o, none⟩) hk
  have f : ∀ o, w'.frozen? ⟨b, o, none⟩ = w.frozen? ⟨b, o, none⟩ := fun o => World.frozen?_of_block (w := w) (a := ⟨b, o, none⟩) hk
  exact ⟨(e 0).trans h.c0, (e 1).trans h.c1, (f 0).trans h.f0, (f 1).trans h.f1, Nat.lt_of_lt_of_le h.lt ho.size⟩
theorem BoxW.keep (h : BoxW w b x y) (hb : Below w.heap.size w w') : BoxW w' b x y := h.only (S := fun _ => False) (Only.of_below hb) (fun h => h)
theorem BoxW.low {B : Nat} (h : BoxW w b x y) (hb : Below B w w') (hB : b < B) : BoxW w' b x y :=
  h.only (S := fun j => B ≤ j) ⟨hb.os, hb.tape, hb.output, hb.size, fun k _ hk => hb.block k (by omega)⟩ (by omega)
theorem BoxW.set0 (h : BoxW w b x y) (u : Value) : BoxW (w.setCell ⟨b, 0, none⟩ u) b u y := by
  obtain ⟨h0, h1, g0, g1, hl⟩ := h
  exact ⟨by go_simp, by go_simp, by go_simp, by go_simp, by simpa using hl⟩
theorem BoxW.set1 (h : BoxW w b x y) (u : Value) : BoxW (w.setCell ⟨b, 1, none⟩ u) b x u := by
  obtain ⟨h0, h1, g0, g1, hl⟩ := h
  exact ⟨by go_simp, by go_simp, by go_simp, by go_simp, by simpa using hl⟩
end
end Go.Proofs.YtohodehmidbmlaaDoor
namespace Go.Proofs.YtohodehmidbmlaaDoor
open Go.RowKit

theorem flat_mem_len {b : UInt8} {p : ByteArray} : ∀ {t : List ByteArray}, p ∈ t → p.size ≤ (t.flatMap fun y => b :: y.data.toList).length
  | y :: t, h => by
    rw [List.flatMap_cons, List.length_append, List.length_cons]
    rcases List.mem_cons.1 h with rfl | h
    · have : p.size = p.data.toList.length := rfl
      omega
    · have := flat_mem_len (b := b) h
      omega
theorem joinP_mem_len {b : UInt8} {p : ByteArray} {l : List ByteArray} (h : p ∈ l) : p.size ≤ (joinP b l).length := by
  match l, h with
  | x :: t, h =>
    rw [joinP, List.length_append]
    rcases List.mem_cons.1 h with rfl | h
    · have : p.size = p.data.toList.length := rfl
      omega
    · have := flat_mem_len (b := b) h
      omega
theorem part_le (s : ByteArray) (b : UInt8) : ∀ p ∈ parts s b.toNat, p.size ≤ s.size := by
  intro p hp
  have h := joinP_mem_len (b := b) hp
  rw [← joinP_joinB, joinB_parts] at h
  exact h
theorem three_size (x y : ByteArray) (b : UInt8) : (x ++ ⟨#[b]⟩ ++ y).size = x.size + 1 + y.size := by
  rw [ByteArray.size_append, ByteArray.size_append]; rfl
theorem parts_le2 {y : ByteArray} {b : UInt8} {M : Nat} (h : y.size + 1 ≤ M) : (parts y b.toNat).length ≤ M := Nat.le_trans (parts_len y _) h
theorem vals_small {x y : ByteArray} (h : x.size + 1 + y.size ≤ 1048576) : attrSmall ⟨x, [], parts y 44⟩ :=
  ⟨by simp only; omega, fun s hs => by have := part_le y 44 s hs; omega, by simp, by have := parts_len y 44; simp only; omega⟩
theorem cuts_small {x y : ByteArray} (h : x.size + 1 + y.size ≤ 1048576) : attrSmall ⟨x, numsOf (parts y 44), []⟩ :=
  ⟨by simp only; omega, by simp, by have := parts_len y 44; unfold numsOf; simp only [List.length_map]; omega, by simp⟩
theorem none_small : attrSmall ⟨ByteArray.empty, [], []⟩ := ⟨by decide, by simp, by simp, by simp⟩
theorem numsOf_snoc {l : List ByteArray} {k : Nat} (h : k < l.length) : numsOf (l.take (k + 1)) = numsOf (l.take k) ++ [(rdS (l[k]?.getD ByteArray.empty)).1] := by
  unfold numsOf
  rw [List.take_succ_eq_append_getElem h, List.map_append, List.getElem?_eq_getElem h]; rfl
theorem numsOk_snoc {l : List ByteArray} {k : Nat} (h : k < l.length) (h1 : numsOk (l.take k) = true) (h2 : (rdS (l[k]?.getD ByteArray.empty)).2 = true) : numsOk (l.take (k + 1)) = true := by
  unfold numsOk at *
  rw [List.take_succ_eq_append_getElem h, List.all_append, h1]
  rw [List.getElem?_eq_getElem h, Option.getD_some] at h2
  simp [h2]
theorem numsOk_no {l : List ByteArray} {k : Nat} (h : k < l.length) (h2 : (rdS (l[k]?.getD ByteArray.empty)).2 = false) : numsOk l = false := by
  rw [← Bool.not_eq_true]
  intro h3
  unfold numsOk at h3
  rw [List.all_eq_true] at h3
  rw [List.getElem?_eq_getElem h, Option.getD_some] at h2
  rw [h3 _ (List.getElem_mem h)] at h2
  cases h2
theorem attrsOf_snoc {l : List ByteArray} {k : Nat} (h : k < l.length) : attrsOf (l.take (k + 1)) = attrsOf (l.take k) ++ [(attrOf (l[k]?.getD ByteArray.empty)).getD default] := by
  unfold attrsOf
  rw [List.take_succ_eq_append_getElem h, List.map_append, List.getElem?_eq_getElem h]; rfl
theorem attrsOk_snoc {l : List ByteArray} {k : Nat} (h : k < l.length) (h1 : attrsOk (l.take k) = true) (h2 : (attrOf (l[k]?.getD ByteArray.empty)).isSome = true) : attrsOk (l.take (k + 1)) = true := by
  unfold attrsOk at *
  rw [List.take_succ_eq_append_getElem h, List.all_append, h1]
  rw [List.getElem?_eq_getElem h, Option.getD_some] at h2
  simp [h2]
theorem attrsOk_no {l : List ByteArray} {k : Nat} (h : k < l.length) (h2 : (attrOf (l[k]?.getD ByteArray.empty)).isSome = false) : attrsOk l = false := by
  rw [← Bool.not_eq_true]
  intro h3
  unfold attrsOk at h3
  rw [List.all_eq_true] at h3
  rw [List.getElem?_eq_getElem h, Option.getD_some] at h2
  rw [h3 _ (List.getElem_mem h)] at h2
  cases h2
theorem attrB_small {a : AttrD} (h : attrB a = true) : attrSmall a := by
  have hw := attrB_word h
  have hn : a.name.size ≤ 8 := by
    unfold wordB at hw
    rw [Bool.and_eq_true] at hw
    have := inB_iff.1 hw.1
    omega
  rcases attrB_parts h with ⟨h1, h2, h3, h4⟩ | ⟨h1, h2, h3, h4, h5⟩
  · refine ⟨by omega, fun s hs => ?_, by omega, by omega⟩
    have := (attrB_words h h1 s hs).2
    omega
  · have e : a.vals = [] := List.eq_nil_of_length_eq_zero h1
    exact ⟨by omega, by rw [e]; simp, by omega, by omega⟩
theorem attrsOf_small (l : List ByteArray) : ∀ a ∈ attrsOf l, attrSmall a := by
  intro a ha
  unfold attrsOf at ha
  obtain ⟨s, -, rfl⟩ := List.mem_map.1 ha
  rcases h : attrOf s with _ | a
  · exact none_small
  · exact attrB_small (attrOf_some h).1
end Go.Proofs.YtohodehmidbmlaaDoor
namespace Go.Proofs.YtohodehmidbmlaaDoor
open Go.RowKit
set_option maxRecDepth 100000

theorem only_put {w : World} {p : Addr} (u : Value) : Only (fun j => p.block = j) w (w.setCell p u) := (Only.refl _ w).setCell rfl _
/-- The result's box r, the attribute's box x, its rows. -/
structure OState (w : World) (r x : Nat) (W : World) (A1 : Option Addr) (n1 c1 : Nat) (A2 : Option Addr) (n2 c2 : Nat) (a : AttrD) : Prop where
  ord : w.heap.size ≤ r ∧ w.heap.size ≤ x ∧ r ≠ x
  res : BoxA W r (.string ⟨#[]⟩) (.slice none 0 0) (.slice none 0 0)
  box : BoxA W x (.string a.name) (.slice A1 n1 c1) (.slice A2 n2 c2)
  bag : Bag w.heap.size 2 W (attrRows A1 n1 c1 A2 n2 c2 a)
  ap1 : ∀ k, Value.ownBlock (.slice A1 n1 c1) = some k → k ≠ x ∧ k ≠ r
  ap2 : ∀ k, Value.ownBlock (.slice A2 n2 c2) = some k → k ≠ x ∧ k ≠ r
  below : Below w.heap.size w W
section
variable {w W W2 : World} {r x : Nat} {A1 A2 : Option Addr} {n1 c1 n2 c2 : Nat} {a : AttrD}
theorem OState.keep (h : OState w r x W A1 n1 c1 A2 n2 c2 a) (hb : Below W.heap.size W W2) : OState w r x W2 A1 n1 c1 A2 n2 c2 a :=
  ⟨h.ord, h.res.keep hb, h.box.keep hb, h.bag.below hb, h.ap1, h.ap2, bthen h.below hb⟩
theorem OState.hasne (h : OState w r x W A1 n1 c1 A2 n2 c2 a) {k : Nat} (hk : has 2 (attrRows A1 n1 c1 A2 n2 c2 a) k) : k ≠ x ∧ k ≠ r := by
  obtain ⟨i, hi, e⟩ := hk
  rcases (show i = 0 ∨ i = 1 by omega) with rfl | rfl
  · exact h.ap1 k e
  · exact h.ap2 k e
theorem OState.set0 (h : OState w r x W A1 n1 c1 A2 n2 c2 a) (nm : ByteArray) : OState w r x (W.setCell ⟨x, 0, none⟩ (.string nm)) A1 n1 c1 A2 n2 c2 ⟨nm, a.cuts, a.vals⟩ := by
  have ho' := h.ord
  have hs := only_put (w := W) (p := ⟨x, 0, none⟩) (.string nm)
  exact ⟨h.ord, h.res.only hs (by show ¬ x = r; omega), h.box.set0 _, h.bag.only hs (fun k hk e => (h.hasne hk).1 (Eq.symm e)), h.ap1, h.ap2, h.below.setCell (p := ⟨x, 0, none⟩) h.ord.2.1 _⟩
theorem OState.same1 (h : OState w r x W A1 n1 c1 A2 n2 c2 a) : OState w r x (W.setCell ⟨x, 1, none⟩ (.slice A1 n1 c1)) A1 n1 c1 A2 n2 c2 a := by
  have ho' := h.ord
  have hs := only_put (w := W) (p := ⟨x, 1, none⟩) (.slice A1 n1 c1)
  exact ⟨h.ord, h.res.only hs (by show ¬ x = r; omega), h.box.set1 _, h.bag.only hs (fun k hk e => (h.hasne hk).1 (Eq.symm e)), h.ap1, h.ap2, h.below.setCell (p := ⟨x, 1, none⟩) h.ord.2.1 _⟩
/-- Values laid anew. -/
theorem OState.vals {A2' : Option Addr} {n2' c2' : Nat} {l : List ByteArray} (h : OState w r x W A1 n1 c1 A2 n2 c2 a) (hv : W.ownsRow w.heap.size 9 1 (.slice A2' n2' c2') n2' (l.map Value.string))
    (hap : ∀ k, Value.ownBlock (.slice A2' n2' c2') = some k → k ≠ x ∧ k ≠ r) (hdis : ∀ k, Value.ownBlock (.slice A1 n1 c1) = some k → Value.ownBlock (.slice A2' n2' c2') ≠ some k) :
    OState w r x (W.setCell ⟨x, 2, none⟩ (.slice A2' n2' c2')) A1 n1 c1 A2' n2' c2' ⟨a.name, a.cuts, l⟩ := by
  have ho' := h.ord
  have hs := only_put (w := W) (p := ⟨x, 2, none⟩) (.slice A2' n2' c2')
  have hbag : Bag w.heap.size 2 W (attrRows A1 n1 c1 A2' n2' c2' ⟨a.name, a.cuts, l⟩) := by
    have hx : (intRow A1 n1 c1 a.cuts).apart (strRow A2' n2' c2' l) := by
      unfold Row.apart
      rcases hb : (intRow A1 n1 c1 a.cuts).blk with _ | g
      · exact .inl rfl
      · exact .inr fun e => hdis g hb e.symm
    refine ⟨fun i hi => ?_, fun i j hi hj hij => ?_⟩
    · rcases (show i = 0 ∨ i = 1 by omega) with rfl | rfl
      · have := attr_own1 h.bag
        exact this
      · exact hv
    · rcases (show (i = 0 ∧ j = 1) ∨ (i = 1 ∧ j = 0) by omega) with ⟨rfl, rfl⟩ | ⟨rfl, rfl⟩
      · exact hx
      · exact hx.symm
  have hhas : ∀ k, has 2 (attrRows A1 n1 c1 A2' n2' c2' ⟨a.name, a.cuts, l⟩) k → k ≠ x ∧ k ≠ r := by
    rintro k ⟨i, hi, e⟩
    rcases (show i = 0 ∨ i = 1 by omega) with rfl | rfl
    · exact h.ap1 k e
    · exact hap k e
  exact ⟨h.ord, h.res.only hs (by show ¬ x = r; omega), h.box.set2 _, hbag.only hs (fun k hk e => (hhas k hk).1 (Eq.symm e)), h.ap1, hap, h.below.setCell (p := ⟨x, 2, none⟩) h.ord.2.1 _⟩
theorem OState.turn1 {w9 : World} (h : OState w r x W A1 n1 c1 A2 n2 c2 a) (hg : W.grownBy w9 (Value.ownBlock (.slice A1 n1 c1))) : BoxA w9 r (.string ⟨#[]⟩) (.slice none 0 0) (.slice none 0 0) ∧ BoxA w9 x (.string a.name) (.slice A1 n1 c1) (.slice A2 n2 c2) := by
  have hs : Only (fun j => Value.ownBlock (.slice A1 n1 c1) = some j) W w9 := Only.of_grown hg fun k hk => hk
  exact ⟨h.res.only hs (fun e => (h.ap1 _ e).2 rfl), h.box.only hs (fun e => (h.ap1 _ e).1 rfl)⟩
/-- One cut more. -/
theorem OState.cut {w9 : World} {v : Value} {u : Int} (h : OState w r x W A1 n1 c1 A2 n2 c2 a) (hv : w9.ownsRow w.heap.size 3 1 v (n1 + 1) (a.cuts.map (Value.int .i64) ++ [.int .i64 u])) (hb : Below w.heap.size W w9)
    (hg : W.grownBy w9 (Value.ownBlock (.slice A1 n1 c1))) (hnew : ∀ g, v.ownBlock = some g → Value.ownBlock (.slice A1 n1 c1) = some g ∨ W.heap.size ≤ g) :
    ∃ A1' c1', v = .slice A1' (n1 + 1) c1' ∧ OState w r x (w9.setCell ⟨x, 1, none⟩ v) A1' (n1 + 1) c1' A2 n2 c2 ⟨a.name, a.cuts ++ [u], a.vals⟩ := by
  obtain ⟨A1', c1', rfl, hB⟩ := attr_cut h.bag hv hg hnew
  have ho' := h.ord
  have hs := only_put (w := w9) (p := ⟨x, 1, none⟩) (.slice A1' (n1 + 1) c1')
  have ha1 : ∀ k, Value.ownBlock (.slice A1' (n1 + 1) c1') = some k → k ≠ x ∧ k ≠ r := fun k hk => by
    rcases hnew k hk with q | q
    · exact h.ap1 k q
    · have := h.box.lt; have := h.res.lt; omega
  have hhas : ∀ k, has 2 (attrRows A1' (n1 + 1) c1' A2 n2 c2 ⟨a.name, a.cuts ++ [u], a.vals⟩) k → k ≠ x ∧ k ≠ r := by
    rintro k ⟨i, hi, e⟩
    rcases (show i = 0 ∨ i = 1 by omega) with rfl | rfl
    · exact ha1 k e
    · exact h.ap2 k e
  obtain ⟨t1, t2⟩ := h.turn1 hg
  exact ⟨A1', c1', rfl, ho', t1.only hs (by show ¬ x = r; omega), t2.set1 _, hB.only hs (fun k hk e => (hhas k hk).1 (Eq.symm e)), ha1, h.ap2, (h.below.trans hb).setCell (p := ⟨x, 1, none⟩) h.ord.2.1 _⟩
/-- The result written. -/
theorem OState.fin (h : OState w r x W A1 n1 c1 A2 n2 c2 a) (u0 u1 u2 : Value) : Bag w.heap.size 2 (((W.setCell ⟨r, 0, none⟩ u0).setCell ⟨r, 1, none⟩ u1).setCell ⟨r, 2, none⟩ u2) (attrRows A1 n1 c1 A2 n2 c2 a) ∧
    Below w.heap.size w (((W.setCell ⟨r, 0, none⟩ u0).setCell ⟨r, 1, none⟩ u1).setCell ⟨r, 2, none⟩ u2) := by
  have hs : Only (fun j => r = j) W (((W.setCell ⟨r, 0, none⟩ u0).setCell ⟨r, 1, none⟩ u1).setCell ⟨r, 2, none⟩ u2) :=
    (((Only.refl _ W).setCell (p := ⟨r, 0, none⟩) rfl _).setCell (p := ⟨r, 1, none⟩) rfl _).setCell (p := ⟨r, 2, none⟩) rfl _
  exact ⟨h.bag.only hs (fun k hk e => (h.hasne hk).2 (Eq.symm e)), ((h.below.setCell (p := ⟨r, 0, none⟩) h.ord.1 _).setCell (p := ⟨r, 1, none⟩) h.ord.1 _).setCell (p := ⟨r, 2, none⟩) h.ord.1 _⟩
end
/-- The attribute of no text. -/
def attrZ : AttrD := ⟨⟨#[]⟩, [], []⟩
end Go.Proofs.YtohodehmidbmlaaDoor
namespace Go.Proofs
open Go.Shelf
def Tryd.laysCut_ren : Go.Shelf.Ren := ⟨fun | 145 => 101 | 220 => 137 | 219 => 151 | 217 => 161 | 225 => 162 | 224 => 163 | 267 => 164 | 266 => 177 | 314 => 178 | n => n, fun | 9 => 9 | 4 => 4 | 59 => 111 | 3 => 3 | 5 => 5 | 46 => 140 | 146 => 167 | 51 => 166 | n => n, fun | 1 => 0 | n => n⟩
theorem Tryd.laysCut : Go.Proofs.Lays.n145 Tryd.prog Tryd.laysCut_ren := {
  mixed := by kernel_rfl
  f145 := Tryd.func101.trans (congrArg some (by kernel_rfl))
  f217 := Tryd.func161.trans (congrArg some (by kernel_rfl))
  f219 := Tryd.func151.trans (congrArg some (by kernel_rfl))
  f220 := Tryd.func137.trans (congrArg some (by kernel_rfl))
  f224 := Tryd.func163.trans (congrArg some (by kernel_rfl))
  f225 := Tryd.func162.trans (congrArg some (by kernel_rfl))
  f266 := Tryd.func177.trans (congrArg some (by kernel_rfl))
  f267 := Tryd.func164.trans (congrArg some (by kernel_rfl))
  f314 := Tryd.func178.trans (congrArg some (by kernel_rfl))
  t3 := Tryd.underlying3
  a3 := Tryd.isAgg3
  z3 := Tryd.sizeOf3
  v3 := Tryd.zeroValue3
  t4 := Tryd.underlying4
  a4 := Tryd.isAgg4
  z4 := Tryd.sizeOf4
  v4 := Tryd.zeroValue4
  t5 := Tryd.underlying5
  a5 := Tryd.isAgg5
  z5 := Tryd.sizeOf5
  v5 := Tryd.zeroValue5
  t9 := Tryd.underlying9
  a9 := Tryd.isAgg9
  z9 := Tryd.sizeOf9
  v9 := Tryd.zeroValue9
  t46 := Tryd.underlying140
  a46 := Tryd.isAgg140
  z46 := Tryd.sizeOf140
  v46 := Tryd.zeroValue140
  t51 := Tryd.underlying166
  a51 := Tryd.isAgg166
  z51 := Tryd.sizeOf166
  v51 := Tryd.zeroValue166
  t59 := Tryd.underlying111
  a59 := Tryd.isAgg111
  z59 := Tryd.sizeOf111
  v59 := Tryd.zeroValue111
  t146 := Tryd.underlying167
  a146 := Tryd.isAgg167
  z146 := Tryd.sizeOf167
  v146 := Tryd.zeroValue167
  g1 := by kernel_rfl }
end Go.Proofs
namespace Go.Proofs.YtohodehmidbmlaaDoor
open Go.ChangeShapes Go.WideShapes Go.ChangeAt Go.RowKit Go.Shelf
set_option maxRecDepth 100000

theorem returns_and_shaped {H : Type} {enc : TypeId × Value → H} {a : Assume} {C : Checked} {os : Os} {f : FuncId} {fn : Func} {s : ChangeSpec} {conds : List PathCond} {apart fresh handsOn again : Bool} {X : World → Array Value → Prop}
    (hX : ∀ (w w' : World) (args : Array Value), w.heap = w'.heap → X w args → X w' args)
    (own : ownKnob C.prog.godebug = none) (started : os.Started) (noInit : C.prog.inits.idxOf? f = none) (hfn : C.prog.funcs[f]? = some fn)
    (witness : ∃ (w : World) (tape : Tape) (i : Input), w.os = os ∧ (w.forCall tape i).Shaped C.prog ∧ i.vars = [] ∧ Input.okWide C.prog (w.forCall tape i) .any w.heap.size f i ∧
      ((s.pre enc C.prog fn conds apart (w.forCall tape i).memory i.args ∧ X (w.forCall tape i).memory i.args) ∧ sizedMet enc C.prog fn (OpenSpec.ofChange s) apart (w.forCall tape i).memory i.args) ∧ a.holds C.prog (lone (Frame.enter C.prog f i.args .normal) [] (w.forCall tape i)))
    (contract : ∀ (W : World) (base : Nat) (args : Array Value) (ds gs : List (DataW H)) (before : List MemPlace),
      (∀ (j : Nat) t v, fn.params[j]? = some t → args[j]? = some v → Value.okWide C.prog W .any base t v) →
      DataW.Whole enc C.prog fn.params.toList s.vars apart W args.toList ds gs before →
      conds.all (PathCond.test C.prog ⟨fn.params.toList, ds, s.plain.varTypes C.prog, gs⟩) = true →
      X W args → W.ShapedOpen C.prog →
      Calls C.prog f args W fun e W' => ∃ v, e = .returned v ∧ s.post enc C.prog fn apart fresh handsOn again W args v W') :
    ReturnsInHanded a C os f .any (fun w args => (s.pre enc C.prog fn conds apart w args ∧ X w args) ∧ sizedMet enc C.prog fn (OpenSpec.ofChange s) apart w args) (s.post enc C.prog fn apart fresh handsOn again) := by
  refine returnsInHanded_of_calls own started noInit witness ?_
  intro w tape i _ hsh _ hok hpre _
  obtain ⟨_, _, _, fn', hfn', _, _, _, _, hval⟩ := hok
  obtain rfl : fn' = fn := Option.some.inj (hfn'.symm.trans hfn)
  obtain ⟨⟨⟨ds, gs, before, hw, hc⟩, hx⟩, -⟩ := hpre
  refine (contract (w.forCall tape i) w.heap.size i.args ds gs before hval (DataW.Whole.of_heap (w' := w.forCall tape i) (by rfl) hw) hc (hX _ _ _ (by rfl) hx) hsh).mono fun e W' ⟨v, he, hp⟩ => ?_
  subst he
  exact ChangeSpec.post_blind hp

/-- The listed variables, and the cell that strings.Cut reads. -/
structure DoorS (w : World) : Prop where
  door : DoorW w
  maxl : ∃ m, w.cell? ⟨0, 0, none⟩ = some (.int .i64 m)
theorem DoorS.keep {w w' : World} (h : DoorS w) (hb : Below w.heap.size w w') : DoorS w' := by
  obtain ⟨h1, m, h2⟩ := h
  exact ⟨h1.keep hb, m, (hb.cell (World.block_lt_of_cell? w _ h2)).trans h2⟩
theorem doorS_of {w : World} (hd : DoorW w) (hs : w.ShapedOpen Tryd.prog) : DoorS w :=
  ⟨hd, cell_of_shapedOpen_int (zero := #[.int .i64 0]) (t := 3) hs (by decide +kernel) (by kernel_rfl) rfl (by kernel_rfl) (by kernel_rfl) Tryd.underlying3⟩
theorem cut_any (s : ByteArray) (b : UInt8) (w : World) (hd : DoorS w) (hs : s.size ≤ 1048576) :
    Calls Tryd.prog 101 #[.string s, .string ⟨#[b]⟩] w fun e w' => ∃ x y ok, e = .returned (.tuple #[.string x, .string y, .bool ok]) ∧ CutP b s x y ok ∧ ∃ q, w' = w.drewN q := by
  obtain ⟨-, m, hm⟩ := hd
  have h : Calls Tryd.prog 101 #[.string s, .string ⟨#[b]⟩] w _ := Any.strings_Cut Tryd.laysCut s ⟨#[b]⟩ m w (by omega) hm
  exact h.mono fun e w' ⟨he, hw⟩ => ⟨_, _, _, he, cutP b s, hw⟩
end Go.Proofs.YtohodehmidbmlaaDoor
namespace Go.Proofs.YtohodehmidbmlaaDoor
open Go.RowKit
set_option maxRecDepth 100000

/-- A cursor in block b: the bytes, where it stands, its mix. -/
def Cur (w : World) (b : Nat) : Prop :=
  ∃ (A : Option Addr) (n c : Nat) (l : List UInt8) (i : Nat) (h : Int), w.cell? ⟨b, 0, none⟩ = some (.slice A n c) ∧ w.cell? ⟨b, 1, none⟩ = some (.int .i64 i) ∧ w.cell? ⟨b, 2, none⟩ = some (.int .i64 h) ∧
    w.frozen? ⟨b, 1, none⟩ = false ∧ w.frozen? ⟨b, 2, none⟩ = false ∧ b < w.heap.size ∧ i ≤ n ∧ n ≤ 1048576 ∧ Bytes w A n l ∧ (0 < n → ∀ a, A = some a → a.block < b)
theorem Cur.keep {w w' : World} {b : Nat} (h : Cur w b) (hb : Below w.heap.size w w') : Cur w' b := by
  obtain ⟨A, n, c, l, i, x, h0, h1, h2, f1, f2, hlt, hi, hn, hl, ha⟩ := h
  exact ⟨A, n, c, l, i, x, (hb.cell (p := ⟨b, 0, none⟩) hlt).trans h0, (hb.cell (p := ⟨b, 1, none⟩) hlt).trans h1, (hb.cell (p := ⟨b, 2, none⟩) hlt).trans h2,
    (hb.frozen (p := ⟨b, 1, none⟩) hlt).trans f1, (hb.frozen (p := ⟨b, 2, none⟩) hlt).trans f2, Nat.lt_of_lt_of_le hlt hb.size, hi, hn, hl.keep hb, ha⟩

theorem Slc.only {α : Type} {sz : Nat} {E : World → List Value → α → Prop} {S : Nat → Prop} {w w' : World} {A : Option Addr} {n : Nat} {l : List α}
    (h : Slc sz E w A n l) (hE : ∀ cs x, E w cs x → E w' cs x) (ho : Only S w w') (ha : 0 < n → ∀ a, A = some a → ¬ S a.block) : Slc sz E w' A n l :=
  ⟨h.1, fun hn => by
    obtain ⟨ad, e, hlt, hc⟩ := h.2 hn
    refine ⟨ad, e, Nat.lt_of_lt_of_le hlt ho.size, fun i hi => ?_⟩
    obtain ⟨cs, h1, h2, h3⟩ := hc i hi
    exact ⟨cs, h1, hE _ _ h2, fun j u hu => (ho.cell (by rw [block_of_add]; exact ha hn ad e) (by rw [block_of_add]; exact hlt)).trans (h3 j u hu)⟩⟩
theorem Bytes.only {S : Nat → Prop} {w w' : World} {A : Option Addr} {n : Nat} {l : List UInt8} (h : Bytes w A n l) (ho : Only S w w') (ha : 0 < n → ∀ a, A = some a → ¬ S a.block) : Bytes w' A n l := Slc.only h (fun _ _ h => h) ho ha
theorem Ints.only {S : Nat → Prop} {w w' : World} {A : Option Addr} {n : Nat} {l : List Int} (h : Ints w A n l) (ho : Only S w w') (ha : 0 < n → ∀ a, A = some a → ¬ S a.block) : Ints w' A n l := Slc.only h (fun _ _ h => h) ho ha
theorem Strs.only {S : Nat → Prop} {w w' : World} {A : Option Addr} {n : Nat} {l : List ByteArray} (h : Strs w A n l) (ho : Only S w w') (ha : 0 < n → ∀ a, A = some a → ¬ S a.block) : Strs w' A n l := Slc.only h (fun _ _ h => h) ho ha

theorem Cur.next {w W : World} {b n c i : Nat} {A : Option Addr} {l : List UInt8} {y : Int} (k0 : w.cell? ⟨b, 0, none⟩ = some (.slice A n c)) (k1 : w.cell? ⟨b, 1, none⟩ = some (.int .i64 i)) (k2 : w.cell? ⟨b, 2, none⟩ = some (.int .i64 y))
    (g1 : w.frozen? ⟨b, 1, none⟩ = false) (g2 : w.frozen? ⟨b, 2, none⟩ = false) (hlt : b < w.heap.size) (hi : i + 1 ≤ n) (hn : n ≤ 1048576) (hl : Bytes w A n l) (ha : 0 < n → ∀ a, A = some a → a.block < b) (hd : Below w.heap.size w W) :
    Cur (W.setCell ⟨b, 1, none⟩ (.int .i64 ((i : Int) + 1))) b := by
  have q0 := (hd.cell (p := ⟨b, 0, none⟩) hlt).trans k0
  have q1 := (hd.cell (p := ⟨b, 1, none⟩) hlt).trans k1
  have q2 := (hd.cell (p := ⟨b, 2, none⟩) hlt).trans k2
  have f1 := (hd.frozen (p := ⟨b, 1, none⟩) hlt).trans g1
  have f2 := (hd.frozen (p := ⟨b, 2, none⟩) hlt).trans g2
  have hsz := hd.size
  exact ⟨A, n, c, l, i + 1, y, by go_simp, by go_simp, by go_simp, by go_simp, by go_simp, by simp; omega, hi, hn,
    (hl.keep hd).only ((Only.refl (· = b) W).setCell (p := ⟨b, 1, none⟩) rfl _) (fun h a e (q : a.block = b) => by have := ha h a e; omega), ha⟩
theorem and_le (z : Int) (M : Nat) (hM : M < 4611686018427387904) : 0 ≤ bits .and .i64 z M ∧ bits .and .i64 z M ≤ M := by
  have h : ((BitVec.ofInt 64 z) &&& (BitVec.ofInt 64 (M : Int))).toNat ≤ M := by
    rw [BitVec.toNat_and]
    refine Nat.le_trans Nat.and_le_right ?_
    rw [BitVec.toNat_ofInt]
    omega
  have e : bits .and .i64 z M = IntKind.i64.wrap ((BitVec.ofInt 64 z) &&& (BitVec.ofInt 64 (M : Int))).toNat := rfl
  rw [e, IntWalk.i64_in _ (by omega)]
  omega

/-- A cursor lies below B: what is done to blocks from B on does not touch it. -/
theorem Cur.low {w w' : World} {b B : Nat} (h : Cur w b) (hB : b < B) (hb : Below B w w') : Cur w' b := by
  obtain ⟨A, n, c, l, i, x, h0, h1, h2, f1, f2, hlt, hi, hn, hl, ha⟩ := h
  have ho : Only (fun j => B ≤ j) w w' := ⟨hb.os, hb.tape, hb.output, hb.size, fun k _ hk => hb.block k (by omega)⟩
  exact ⟨A, n, c, l, i, x, (hb.cell (p := ⟨b, 0, none⟩) hB).trans h0, (hb.cell (p := ⟨b, 1, none⟩) hB).trans h1, (hb.cell (p := ⟨b, 2, none⟩) hB).trans h2,
    (hb.frozen (p := ⟨b, 1, none⟩) hB).trans f1, (hb.frozen (p := ⟨b, 2, none⟩) hB).trans f2, Nat.lt_of_lt_of_le hlt hb.size, hi, hn,
    hl.only ho (fun h a e (q : B ≤ a.block) => by have := ha h a e; omega), ha⟩
theorem Only.low {S : Nat → Prop} {w w1 w2 : World} (h : Only S w w1) (hb : Below w.heap.size w1 w2) : Only S w w2 :=
  ⟨hb.os.trans h.os, hb.tape.trans h.tape, hb.output.trans h.output, Nat.le_trans h.size hb.size, fun k hk hn => (hb.block k hk).trans (h.block k hk hn)⟩
theorem Cur.lt {w : World} {b : Nat} (h : Cur w b) : b < w.heap.size := by
  obtain ⟨_, _, _, _, _, _, _, _, _, _, _, hlt, _⟩ := h
  exact hlt

set_option maxHeartbeats 4000000 in
theorem l1Byte_any (b : Nat) (w : World) (h : Cur w b) :
    Calls Tryd.prog 136 #[.pointer (some ⟨b, 0, none⟩)] w fun e w' => ∃ x : Int, e = .returned (.int .i64 x) ∧ 0 ≤ x ∧ x ≤ 255 ∧ Cur w' b ∧ Only (· = b) w w' := by
  obtain ⟨A, n, c, l, i, x, h0, h1, h2, f1, f2, hlt, hi, hn, hl, ha⟩ := h
  go_enter Tryd.func136, Tryd.ntmps136
  go_wp2
  obtain ⟨y, hy⟩ : ∃ y, y = wrap64 (wrap64 (x * 6364136223846793005) + 1442695040888963407) := ⟨_, rfl⟩
  rw [← hy]
  clear hy
  have k0 : (w.setCell ⟨b, 2, none⟩ (.int .i64 y)).cell? ⟨b, 0, none⟩ = some (.slice A n c) := by go_simp
  have k1 : (w.setCell ⟨b, 2, none⟩ (.int .i64 y)).cell? ⟨b, 1, none⟩ = some (.int .i64 i) := by go_simp
  have k2 : (w.setCell ⟨b, 2, none⟩ (.int .i64 y)).cell? ⟨b, 2, none⟩ = some (.int .i64 y) := by go_simp
  have g1 : (w.setCell ⟨b, 2, none⟩ (.int .i64 y)).frozen? ⟨b, 1, none⟩ = false := by go_simp
  have g2 : (w.setCell ⟨b, 2, none⟩ (.int .i64 y)).frozen? ⟨b, 2, none⟩ = false := by go_simp
  have hO : Only (· = b) w (w.setCell ⟨b, 2, none⟩ (.int .i64 y)) := (Only.refl (· = b) w).setCell (p := ⟨b, 2, none⟩) rfl _
  have HL := hide (hl.only hO (fun h a e (q : a.block = b) => by have := ha h a e; omega))
  have hlt2 : b < (w.setCell ⟨b, 2, none⟩ (.int .i64 y)).heap.size := by simpa using hlt
  clear h0 h1 h2 f1 f2 hlt hl
  generalize w.setCell ⟨b, 2, none⟩ (.int .i64 y) = W at *
  have HA := hide ha
  clear ha
  go_quiet (fail)
  obtain ⟨X, hX, hX0, hX1⟩ : ∃ X, X = bits BinOp.and IntKind.i64 (bits BinOp.xor IntKind.i64 (y / 8589934592) (y / 35184372088832)) 255 ∧ 0 ≤ X ∧ X ≤ 255 := ⟨_, rfl, and_le _ 255 (by omega)⟩
  rw [← hX]
  clear hX
  generalize hy1 : y / 8589934592 = y1
  generalize hy2 : y / 35184372088832 = y2
  clear hy1 hy2
  go_wp2
  by_cases hlt : i < n
  · obtain ⟨ad, rfl, hub, hcell⟩ := HL.out.at_ hlt
    have hi0 : (0 : Int) ≤ i := by omega
    have hi1 : (i : Int) < n := by omega
    go_quiet (fail)
    go_wp2
    go_quiet (fail)
    generalize (l[i]?.getD 0).toNat = v at *
    have hx := and_le (wrap64 (X + wrap64 (v : Int))) 255 (by omega)
    obtain ⟨Y, hY, hY0, hY1⟩ : ∃ Y, Y = bits .and .i64 (wrap64 (X + wrap64 (v : Int))) 255 ∧ 0 ≤ Y ∧ Y ≤ 255 := ⟨_, rfl, hx⟩
    clear hx
    rw [← hY]
    clear hY
    go_wp2
    go_ret
    refine ⟨Y, rfl, hY0, hY1, Cur.next k0 k1 k2 g1 g2 hlt2 (by omega) hn HL.out HA.out ?_, hO.trans ((Only.of_below (S := (· = b)) ?_).setCell (p := ⟨b, 1, none⟩) rfl _)⟩ <;>
      exact below_drewN (Below.refl _ _) _
  · go_quiet (fail)
    go_wp2
    go_ret
    refine ⟨X, rfl, hX0, hX1, Cur.keep ⟨A, n, c, l, i, y, k0, k1, k2, g1, g2, hlt2, hi, hn, HL.out, HA.out⟩ ?_, hO.trans (Only.of_below ?_)⟩ <;>
      exact below_drewN (below_drewN (Below.refl _ _) _) _

theorem emod_in {x n : Int} (hn : 0 < n) : 0 ≤ x % n ∧ x % n < n := ⟨Int.emod_nonneg _ (by omega), Int.emod_lt_of_pos _ hn⟩

set_option maxHeartbeats 4000000 in
theorem l1Below_any (b : Nat) (n : Int) (w : World) (h : Cur w b) (hn : n ≤ 9223372036854775807) :
    Calls Tryd.prog 99 #[.pointer (some ⟨b, 0, none⟩), .int .i64 n] w fun e w' => ∃ x : Int, e = .returned (.int .i64 x) ∧ 0 ≤ x ∧ (0 < n → x < n) ∧ (n ≤ 0 → x = 0) ∧ Cur w' b ∧ Only (· = b) w w' := by
  have HC := hide h
  clear h
  by_cases h0 : n ≤ 0
  · go_enter Tryd.func99, Tryd.ntmps99
    go_wp2
    go_ret
    exact ⟨0, rfl, by omega, fun h => by omega, fun _ => rfl, HC.out, Only.refl _ _⟩
  · have hne : (n == 0) = false := beq_eq_false_iff_ne.2 (by omega)
    by_cases h1 : n ≤ 256
    · go_enter Tryd.func99, Tryd.ntmps99
      go_wp2_with (fail)
      refine (l1Byte_any b _ HC.out).mono ?_
      rintro e w1 ⟨x, rfl, hx0, hx1, hC1, ho1⟩
      have HC1 := hide hC1
      clear hC1
      go_wp2
      go_ret
      exact ⟨x % n, rfl, (emod_in h0).1, fun _ => (emod_in h0).2, fun h => by omega, HC1.out, ho1⟩
    · go_enter Tryd.func99, Tryd.ntmps99
      go_wp2_with (fail)
      refine (l1Byte_any b _ HC.out).mono ?_
      rintro e w1 ⟨x, rfl, hx0, hx1, hC1, ho1⟩
      have HC1 := hide hC1
      clear hC1
      go_wp2_with (fail)
      refine (l1Byte_any b _ HC1.out).mono ?_
      rintro e w2 ⟨y, rfl, hy0, hy1, hC2, ho2⟩
      have HC2 := hide hC2
      clear hC2
      go_wp2_with (fail)
      refine (l1Byte_any b _ HC2.out).mono ?_
      rintro e w3 ⟨z, rfl, hz0, hz1, hC3, ho3⟩
      have HC3 := hide hC3
      clear hC3
      go_wp2_with (fail)
      refine (l1Byte_any b _ HC3.out).mono ?_
      rintro e w4 ⟨v, rfl, hv0, hv1, hC4, ho4⟩
      have HC4 := hide hC4
      clear hC4
      go_wp2
      go_ret
      exact ⟨(x * 16777216 + y * 65536 + z * 256 + v) % n, rfl, (emod_in h0).1, fun _ => (emod_in h0).2, fun h => by omega, HC4.out, ((ho1.trans ho2).trans ho3).trans ho4⟩

set_option maxHeartbeats 4000000 in
theorem l1Once_any (b : Nat) (n : Int) (w : World) (h : Cur w b) (hn : n ≤ 9223372036854775807) :
    Calls Tryd.prog 149 #[.pointer (some ⟨b, 0, none⟩), .int .i64 n] w fun e w' => ∃ x : Bool, e = .returned (.bool x) ∧ Cur w' b ∧ Only (· = b) w w' := by
  have HC := hide h
  clear h
  go_enter Tryd.func149, Tryd.ntmps149
  go_wp2_with (fail)
  refine (l1Below_any b _ _ HC.out hn).mono ?_
  rintro e w1 ⟨x, rfl, hx0, hx1, hx2, hC1, ho1⟩
  have HC1 := hide hC1
  have HO := hide ho1
  clear hC1 hx1 hx2 ho1
  go_wp2
  go_ret
  exact ⟨_, rfl, HC1.out, HO.out⟩

set_option maxHeartbeats 4000000 in
theorem l1Pick_any (b : Nat) (A : Option Addr) (n c : Nat) (l : List ByteArray) (w : World) (h : Cur w b) (hl : Strs w A n l) (ha : 0 < n → ∀ a, A = some a → a.block ≠ b) (hn : 0 < n) (hn2 : n ≤ 1048576) :
    Calls Tryd.prog 100 #[.pointer (some ⟨b, 0, none⟩), .slice A n c] w fun e w' => ∃ k : Nat, k < n ∧ e = .returned (.string (l[k]?.getD ByteArray.empty)) ∧ Cur w' b ∧ Only (· = b) w w' := by
  have HC := hide h
  have HL := hide hl
  have HA := hide ha
  clear h hl ha
  go_enter Tryd.func100, Tryd.ntmps100
  go_wp2_with (fail)
  refine (l1Below_any b _ _ HC.out (by omega)).mono ?_
  rintro e w1 ⟨x, rfl, hx0, hx1, -, hC1, ho1⟩
  have HC1 := hide hC1
  clear hC1
  have hx2 : x < n := hx1 (by omega)
  clear hx1
  obtain ⟨k, rfl⟩ : ∃ k : Nat, x = k := ⟨x.toNat, by omega⟩
  obtain ⟨ad, rfl, hub, hcell⟩ := (HL.out.only ho1 (fun h a e => HA.out h a e)).at_ (k := k) (by omega)
  have HO := hide ho1
  clear ho1
  go_wp2
  go_ret
  exact ⟨k, by omega, rfl, HC1.out, HO.out⟩

set_option maxHeartbeats 4000000 in
theorem l1PickInt_any (b : Nat) (A : Option Addr) (n c : Nat) (l : List Int) (w : World) (h : Cur w b) (hl : Ints w A n l) (ha : 0 < n → ∀ a, A = some a → a.block ≠ b) (hn : 0 < n) (hn2 : n ≤ 1048576) :
    Calls Tryd.prog 120 #[.pointer (some ⟨b, 0, none⟩), .slice A n c] w fun e w' => ∃ k : Nat, k < n ∧ e = .returned (.int .i64 (l[k]?.getD 0)) ∧ Cur w' b ∧ Only (· = b) w w' := by
  have HC := hide h
  have HL := hide hl
  have HA := hide ha
  clear h hl ha
  go_enter Tryd.func120, Tryd.ntmps120
  go_wp2_with (fail)
  refine (l1Below_any b _ _ HC.out (by omega)).mono ?_
  rintro e w1 ⟨x, rfl, hx0, hx1, -, hC1, ho1⟩
  have HC1 := hide hC1
  clear hC1
  have hx2 : x < n := hx1 (by omega)
  clear hx1
  obtain ⟨k, rfl⟩ : ∃ k : Nat, x = k := ⟨x.toNat, by omega⟩
  obtain ⟨ad, rfl, hub, hcell⟩ := (HL.out.only ho1 (fun h a e => HA.out h a e)).at_ (k := k) (by omega)
  have HO := hide ho1
  clear ho1
  go_wp2
  go_ret
  exact ⟨k, by omega, rfl, HC1.out, HO.out⟩

/-- A new cursor. -/
theorem Cur.new (w : World) (A : Option Addr) (n c : Nat) (l : List UInt8) (h : Int) (t : TypeId) (hl : Bytes w A n l) (hn : n ≤ 1048576) : Cur (w.alloc (.cells #[.slice A n c, .int .i64 0, .int .i64 h] t)) w.heap.size :=
  ⟨A, n, c, l, 0, h, by rw [cell_of_row _ w.heap.size 0 #[.slice A n c, .int .i64 0, .int .i64 h] t (0, 0) (heap_alloc_new w _)]; rfl,
    by rw [cell_of_row _ w.heap.size 1 #[.slice A n c, .int .i64 0, .int .i64 h] t (0, 0) (heap_alloc_new w _)]; rfl,
    by rw [cell_of_row _ w.heap.size 2 #[.slice A n c, .int .i64 0, .int .i64 h] t (0, 0) (heap_alloc_new w _)]; rfl,
    by go_simp, by go_simp, by simp, Nat.zero_le _, hn, hl.keep ((Below.refl _ _).alloc (Nat.le_refl _) _), fun h a e => by obtain ⟨ad, rfl, hlt, -⟩ := hl.2 h; obtain rfl := Option.some.inj e; omega⟩

set_option maxHeartbeats 4000000 in
theorem l1New_any (A : Option Addr) (n c : Nat) (l : List UInt8) (w : World) (hl : Bytes w A n l) (hn : n ≤ 1048576) :
    Calls Tryd.prog 97 #[.slice A n c] w fun e w' => ∃ b, e = .returned (.pointer (some ⟨b, 0, none⟩)) ∧ w.heap.size ≤ b ∧ Cur w' b ∧ Below w.heap.size w w' := by
  have HL := hide hl
  clear hl
  go_enter Tryd.func97, Tryd.ntmps97
  go_wp2
  go_loopw [3, 4] (fun h i wr => ∃ (k : Nat) (x : Int), k ≤ n ∧ k ≤ 4000 ∧ i = .int .i64 k ∧ h = .int .i64 x ∧ wr = w) (fun _ i _ => n - (intOf i).toNat)
  case atStart => exact ⟨0, _, Nat.zero_le _, Nat.zero_le _, rfl, rfl, rfl⟩
  case round =>
    obtain ⟨k, x, hk, hk2, rfl, rfl, rfl⟩ := hrel
    by_cases hlt : k < n
    · by_cases hlt2 : k < 4000
      · obtain ⟨ad, rfl, hub, hcell⟩ := HL.out.at_ hlt
        go_wp2
        go_roundw
        case rel => exact ⟨k + 1, _, by omega, by omega, by go_num, rfl, trivial⟩
        case measure => simp [intOf]; omega
      · go_wp2
        go_ret
        exact ⟨_, rfl, Nat.le_refl _, Cur.new _ _ _ _ _ _ _ HL.out hn, (Below.refl _ _).alloc (Nat.le_refl _) _⟩
    · go_wp2
      go_ret
      exact ⟨_, rfl, Nat.le_refl _, Cur.new _ _ _ _ _ _ _ HL.out hn, (Below.refl _ _).alloc (Nat.le_refl _) _⟩
end Go.Proofs.YtohodehmidbmlaaDoor
namespace Go.Proofs.YtohodehmidbmlaaDoor
open Go.RowKit
set_option maxRecDepth 100000

theorem size_max {s : ByteArray} (h : s.size ≤ 1048576) : s.size ≤ 1048576 := h
/-- How a reading of an attribute ends. -/
def AttrPost (s : ByteArray) (w : World) (e : Ending) (w' : World) : Prop := ∃ A1 n1 c1 A2 n2 c2, e = .returned (.tuple #[.agg #[.string ((attrOf s).getD attrZ).name, .slice A1 n1 c1, .slice A2 n2 c2], .bool (attrOf s).isSome]) ∧
  Bag w.heap.size 2 w' (attrRows A1 n1 c1 A2 n2 c2 ((attrOf s).getD attrZ)) ∧ Below w.heap.size w w'
theorem attrPost_none {s : ByteArray} {w w' : World} (h : attrOf s = none) (hb : Below w.heap.size w w') : AttrPost s w (.returned (.tuple #[.agg #[.string ⟨#[]⟩, .slice none 0 0, .slice none 0 0], .bool false])) w' :=
  ⟨none, 0, 0, none, 0, 0, by rw [h]; rfl, by rw [h]; exact attr_start _ _ _, hb⟩
theorem attrPost_some {s : ByteArray} {w w' : World} {a : AttrD} {A1 A2 : Option Addr} {n1 c1 n2 c2 : Nat} (h : attrOf s = some a) (hbag : Bag w.heap.size 2 w' (attrRows A1 n1 c1 A2 n2 c2 a)) (hb : Below w.heap.size w w') :
    AttrPost s w (.returned (.tuple #[.agg #[.string a.name, .slice A1 n1 c1, .slice A2 n2 c2], .bool true])) w' :=
  ⟨A1, n1, c1, A2, n2, c2, by rw [h]; rfl, by rw [h]; exact hbag, hb⟩
theorem keepA_no1 {s : ByteArray} {a : AttrD} (h : attrB a = false) : keepA s (some a) = none := by simp [keepA, h]
theorem keepA_no2 {s : ByteArray} {a : AttrD} (h : ¬ attrT a = s) : keepA s (some a) = none := by simp [keepA, h]


set_option maxHeartbeats 4000000 in
theorem specAttrOf_any (s : ByteArray) (w : World) (hs : s.size ≤ 1048576) :
    Calls Tryd.prog 73 #[.string s] w (AttrPost s w) := by
  have hR0 := BoxA.new w (.string ⟨#[]⟩) (.slice none 0 0) (.slice none 0 0) 64
  obtain ⟨W0, hW0⟩ : ∃ W, W = w.alloc (.cells #[.string ⟨#[]⟩, .slice none 0 0, .slice none 0 0] 64) := ⟨_, rfl⟩
  have HZ0 := hide (show W0.heap.size = w.heap.size + 1 by rw [hW0]; simp)
  have hal0 : Below w.heap.size w W0 := by rw [hW0]; exact (Below.refl _ _).alloc (Nat.le_refl _) _
  rw [← hW0] at hR0
  have hX := BoxA.new W0 (.string ⟨#[]⟩) (.slice none 0 0) (.slice none 0 0) 64
  obtain ⟨W1, hW1⟩ : ∃ W, W = W0.alloc (.cells #[.string ⟨#[]⟩, .slice none 0 0, .slice none 0 0] 64) := ⟨_, rfl⟩
  have hal1 : Below W0.heap.size W0 W1 := by rw [hW1]; exact (Below.refl _ _).alloc (Nat.le_refl _) _
  rw [← hW1, HZ0.out] at hX
  have HW := hide (show W1 = (w.alloc (.cells #[.string ⟨#[]⟩, .slice none 0 0, .slice none 0 0] 64)).alloc (.cells #[.string ⟨#[]⟩, .slice none 0 0, .slice none 0 0] 64) by rw [hW1, hW0])
  have HS := hide (show OState w w.heap.size (w.heap.size + 1) W1 none 0 0 none 0 0 ⟨⟨#[]⟩, [], []⟩ from
    ⟨by omega, hR0.keep hal1, hX, attr_start _ _ _, (fun k e => by cases e), (fun k e => by cases e), bthen hal0 hal1⟩)
  have HZ := hide (show w.heap.size + 2 ≤ W1.heap.size by rw [hW1]; simp; have := HZ0.out; omega)
  clear hR0 hX hW0 hW1 hal0 hal1 HZ0
  go_enter Tryd.func73, Tryd.ntmps73
  go_wp2_with (fail)
  rw [← HW.out]
  refine (specParts_any s 61 _ hs).mono ?_
  rintro e w1 ⟨D, n, m, rfl, ho1, hn1, hb⟩
  replace HS := hide (HS.out.keep hb)
  have HZ1 := hide (show w.heap.size + 2 ≤ w1.heap.size from Nat.le_trans HZ.out hb.size)
  have HP := hide ho1
  have HNP := hide hn1
  clear hb ho1 hn1 HW
  go_wp2_with (fail)
  refine (specParts_any s 58 _ hs).mono ?_
  rintro e w2 ⟨E, q, k, rfl, ho1, hn1, hb⟩
  replace HS := hide (HS.out.keep hb)
  replace HP := hide (show OwnS _ w2 (.slice D n m) (parts s 61) from own_below HP.out hb)
  have HZ2 := hide (show w.heap.size + 2 ≤ w2.heap.size from Nat.le_trans HZ1.out hb.size)
  have HQ := hide ho1
  have HNQ := hide hn1
  clear hb ho1 hn1
  by_cases h2 : (parts s 61).length = 2
  · obtain ⟨px, py, hp, hse, -, -⟩ := parts_pair (s := s) (b := 61) h2
    have hp' : parts s 61 = [px, py] := hp
    have hsz : px.size + 1 + py.size = s.size := by rw [hse, three_size]
    have hn2 : n = 2 := by rw [HNP.out, h2]
    subst hn2
    have hown := HP.out
    unfold OwnS at hown
    rw [hp'] at hown
    have hown2 : w2.ownsRow W1.heap.size 9 1 (.slice D 2 m) 2 [.string px, .string py] := hown
    obtain ⟨g, rfl, hg1, hg2⟩ := own_form hown2 (by omega)
    have hc0 : w2.cell? ⟨g, 0, none⟩ = some (.string px) := hown2.cellAt 0 (by omega)
    have hc1 : w2.cell? ⟨g, 1, none⟩ = some (.string py) := hown2.cellAt 1 (by omega)
    have hgx : w.heap.size + 1 < g := by have := HZ.out; omega
    have HK := hide (show attrOf s = keepA s (some ⟨px, [], parts py 44⟩) by rw [attrOf, hp', candP_one])
    have HSM := hide (vals_small (x := px) (y := py) (by omega))
    have HP1 := hide (HS.out.set0 px)
    have hpy : py.size ≤ 1048576 := by omega
    have HZ3 := hide (show w.heap.size + 2 ≤ (w2.setCell ⟨w.heap.size + 1, 0, none⟩ (.string px)).heap.size by simp; exact HZ2.out)
    clear hp hse hp' hown hown2 h2 HP HQ HNQ HNP hsz
    obtain ⟨x0, x1, x2, f0, f1, f2, xl⟩ := HS.out.box
    go_wp2_with (fail)
    refine (specParts_any py 44 _ hpy).mono ?_
    rintro e w3 ⟨D3, n3, m3, rfl, ho3, hn3, hb⟩
    have HSP := hide (HP1.out.keep hb)
    unfold OwnS at ho3
    rw [← hn3] at ho3
    clear HS
    have HS := hide (HSP.out.vals (((Bag.one (s := strRow D3 n3 m3 (parts py 44)) ho3).mono (by have := HZ3.out; omega)).own 0 (by omega)) (fun k hk => by have := (ho3.lt k hk).1; have := HZ3.out; omega) (fun k hk => by cases hk))
    clear hb ho3 hn3 hc0 hc1 hgx x0 x1 x2 f0 f1 f2 xl HP1
    have HM := hide (attr_m HS.out.bag HSM.out)
    obtain ⟨x0, x1, x2, f0, f1, f2, xl⟩ := HSP.out.box
    go_wp2_with (fail)
    refine (specAttrOk_any _ _ _ _ _ _ ⟨px, [], parts py 44⟩ _ HM.out).mono ?_
    rintro e u1 ⟨rfl, hb⟩
    replace HS := hide (HS.out.keep hb)
    clear hb x0 x1 x2 f0 f1 f2 xl HM
    have HM := hide (attr_m HS.out.bag HSM.out)
    cases hok : attrB ⟨px, [], parts py 44⟩
    · have HF := hide (HK.out.trans (keepA_no1 hok))
      clear hok
      obtain ⟨x0, x1, x2, f0, f1, f2, xl⟩ := HS.out.box
      obtain ⟨r0, r1, r2, h0, h1, h2, rl⟩ := HS.out.res
      go_wp2
      obtain ⟨-, t2⟩ := HS.out.fin (.string ⟨#[]⟩) (.slice none 0 0) (.slice none 0 0)
      exact bodyPost_ret (v := .tuple #[.agg #[.string ⟨#[]⟩, .slice none 0 0, .slice none 0 0], .bool false]) (by simp [results, Tryd.results73, go_sem, r0, r1, r2]) rfl (attrPost_none HF.out t2)
    · have HOK := hide hok
      clear hok
      obtain ⟨x0, x1, x2, f0, f1, f2, xl⟩ := HS.out.box
      go_wp2_with (fail)
      refine (specAttrText_any _ _ _ _ _ _ ⟨px, [], parts py 44⟩ _ HM.out).mono ?_
      rintro e u2 ⟨rfl, hb⟩
      replace HS := hide (HS.out.keep hb)
      clear hb x0 x1 x2 f0 f1 f2 xl HM
      by_cases he : attrT ⟨px, [], parts py 44⟩ = s
      · have HF := hide (HK.out.trans (keepA_yes HOK.out he))
        have hne := str_beq he
        clear he
        obtain ⟨x0, x1, x2, f0, f1, f2, xl⟩ := HS.out.box
        obtain ⟨r0, r1, r2, h0, h1, h2, rl⟩ := HS.out.res
        go_wp2
        obtain ⟨t1, t2⟩ := HS.out.fin (.string px) (.slice none 0 0) (.slice D3 n3 m3)
        exact bodyPost_ret (v := .tuple #[.agg #[.string px, (.slice none 0 0), (.slice D3 n3 m3)], .bool true]) (by simp [results, Tryd.results73, go_sem, r0, r1, r2]) rfl (attrPost_some HF.out t1 t2)
      · have HF := hide (HK.out.trans (keepA_no2 he))
        have hne := str_beq_no he
        clear he
        obtain ⟨x0, x1, x2, f0, f1, f2, xl⟩ := HS.out.box
        obtain ⟨r0, r1, r2, h0, h1, h2, rl⟩ := HS.out.res
        go_wp2
        obtain ⟨-, t2⟩ := HS.out.fin (.string ⟨#[]⟩) (.slice none 0 0) (.slice none 0 0)
        exact bodyPost_ret (v := .tuple #[.agg #[.string ⟨#[]⟩, .slice none 0 0, .slice none 0 0], .bool false]) (by simp [results, Tryd.results73, go_sem, r0, r1, r2]) rfl (attrPost_none HF.out t2)
  · have hne : ((n : Int) == 2) = false := beq_eq_false_iff_ne.2 (by rw [HNP.out]; omega)
    by_cases q2 : (parts s 58).length = 2
    · obtain ⟨qx, qy, hq, hse, -, -⟩ := parts_pair (s := s) (b := 58) q2
      have hq' : parts s 58 = [qx, qy] := hq
      have hsz : qx.size + 1 + qy.size = s.size := by rw [hse, three_size]
      have hn2 : q = 2 := by rw [HNQ.out, q2]
      subst hn2
      have hown := HQ.out
      unfold OwnS at hown
      rw [hq'] at hown
      have hown2 : w2.ownsRow w1.heap.size 9 1 (.slice E 2 k) 2 [.string qx, .string qy] := hown
      obtain ⟨g, rfl, hg1, hg2⟩ := own_form hown2 (by omega)
      have hc0 : w2.cell? ⟨g, 0, none⟩ = some (.string qx) := hown2.cellAt 0 (by omega)
      have hc1 : w2.cell? ⟨g, 1, none⟩ = some (.string qy) := hown2.cellAt 1 (by omega)
      have hgx : w.heap.size + 1 < g := by have := HZ1.out; omega
      have HK1 := hide (show numsOk (parts qy 44) = true → attrOf s = keepA s (some ⟨qx, numsOf (parts qy 44), []⟩) from fun h => by rw [attrOf, hq', candP_two _ _ h2, if_pos h])
      have HK0 := hide (show numsOk (parts qy 44) = false → attrOf s = none from fun h => by rw [attrOf, hq', candP_two _ _ h2, if_neg (by rw [h]; decide)]; rfl)
      have HSM := hide (cuts_small (x := qx) (y := qy) (by omega))
      have HP1 := hide (HS.out.set0 qx)
      have hpy : qy.size + 1 ≤ 1048576 := by omega
      have HZ3 := hide (show w.heap.size + 2 ≤ (w2.setCell ⟨w.heap.size + 1, 0, none⟩ (.string qx)).heap.size by simp; exact HZ2.out)
      clear hq hse hq' hown hown2 HP HQ HNQ HNP hsz q2 h2
      obtain ⟨x0, x1, x2, f0, f1, f2, xl⟩ := HS.out.box
      go_wp2_with (fail)
      refine (specParts_any qy 44 _ (by omega)).mono ?_
      rintro e w3 ⟨D3, n3, m3, rfl, ho3, hn3, hb⟩
      have HSP := hide (HP1.out.keep hb)
      unfold OwnS at ho3
      rw [← hn3] at ho3
      have hb3 := hb.size
      clear HS
      clear hb hc0 hc1 hgx x0 x1 x2 f0 f1 f2 xl HP1 hne
      obtain ⟨L, hL⟩ : ∃ L, L = parts qy 44 := ⟨_, rfl⟩
      rw [← hL] at ho3 hn3
      have HLS := hide (strs_of ho3)
      have hblk := hide (show 0 < n3 → ∀ a, D3 = some a → ¬ (a.block = w.heap.size + 1 ∨ w3.heap.size ≤ a.block) from fun _ a e => by
        have := ho3.lt a.block (by rw [e]; rfl)
        have := HZ3.out
        omega)
      have hsz := hide (show ∀ p ∈ L, p.size ≤ 1048576 from fun p hp => by
        rw [hL] at hp
        have := part_le qy 44 p hp
        omega)
      have hn3' : n3 ≤ 1048576 := by rw [hn3, hL]; have := parts_len qy 44; omega
      have HNL := hide hn3
      rw [← hL] at HK1 HK0 HSM
      have HLL := hide hL
      have HZ4 := hide (show w.heap.size + 2 ≤ w3.heap.size by have := HSP.out.box.lt; omega)
      clear hL ho3 hn3 HZ3
      go_wp2
      go_loopw [8] (fun i W => ∃ K : Nat, K ≤ n3 ∧ i = .int .i64 K ∧ (∃ A1 c1, OState w w.heap.size (w.heap.size + 1) W A1 K c1 none 0 0 ⟨qx, numsOf (L.take K), []⟩ ∧ Hid (∀ k, Value.ownBlock (.slice A1 K c1) = some k → w3.heap.size ≤ k)) ∧ Hid (numsOk (L.take K) = true) ∧ Hid (Only (fun j => j = w.heap.size + 1 ∨ w3.heap.size ≤ j) w3 W)) (fun i _ => n3 - (intOf i).toNat)
      case atStart => exact ⟨0, Nat.zero_le _, rfl, ⟨none, 0, HSP.out, fun k e => by cases e⟩, (by show numsOk [] = true; rfl), Only.refl _ _⟩
      case round =>
        clear HSP
        obtain ⟨K, hk, rfl, ⟨A1, c1, hS, hown⟩, hok, hon⟩ := hrel
        have HS := hide hS
        clear hS
        have hLS := hide (Strs.only HLS.out hon.out hblk.out)
        by_cases hlt : K < n3
        · obtain ⟨ad, rfl, hadb, hcell⟩ := hLS.out.at_ hlt
          have hkl := hide (show K < L.length by have := HNL.out; omega)
          have hz := hsz.out (L[K]?.getD ByteArray.empty) (by rw [List.getElem?_eq_getElem hkl.out, Option.getD_some]; exact List.getElem_mem hkl.out)
          obtain ⟨p, hp⟩ : ∃ p, p = L[K]?.getD ByteArray.empty := ⟨_, rfl⟩
          rw [← hp] at hcell hz
          have HP := hide hp
          clear hp
          go_wp2_with (fail)
          refine (specSigned_any _ hz _).mono ?_
          rintro e w5 ⟨rfl, hb⟩
          replace HS := hide (HS.out.keep hb)
          replace hon := hide (hon.out.trans (Only.of_below hb))
          have hbz := hb.size
          clear hb
          obtain ⟨v, ok, hv⟩ : ∃ v ok, rdI p (-9999) 9999 = (v, ok) := ⟨_, _, rfl⟩
          have hrd := hide (show rdS (L[K]?.getD ByteArray.empty) = (v, ok) from (by rw [← HP.out]; exact hv))
          rw [hv]
          clear hv
          cases ok
          · have HF := hide (HK0.out (numsOk_no hkl.out (by rw [hrd.out])))
            obtain ⟨x0, x1, x2, f0, f1, f2, xl⟩ := HS.out.box
            obtain ⟨r0, r1, r2, h0, h1, h2, rl⟩ := HS.out.res
            go_wp2
            obtain ⟨-, t2⟩ := HS.out.fin (.string ⟨#[]⟩) (.slice none 0 0) (.slice none 0 0)
            exact bodyPost_ret (v := .tuple #[.agg #[.string ⟨#[]⟩, .slice none 0 0, .slice none 0 0], .bool false]) (by simp [results, Tryd.results73, go_sem, r0, r1, r2]) rfl (attrPost_none HF.out t2)
          · have hok2 := hide (numsOk_snoc hkl.out hok.out (by rw [hrd.out]))
            have hval := hide (show numsOf (L.take K) ++ [v] = numsOf (L.take (K + 1)) by rw [numsOf_snoc hkl.out, hrd.out])
            have HSZ := hide (show w.heap.size ≤ w5.heap.size from HS.out.below.size)
            have hnum : K + 1 ≤ 1048577 := by omega
            obtain ⟨x0, x1, x2, f0, f1, f2, xl⟩ := HS.out.box
            go_wp2_with (at_builtin; go_must (refine wpList_append_one w5 rfl _ _ 28 rfl w.heap.size 3 (.int .i64 0) 1 8 Tryd.underlying28 infoI rfl (by decide) _ K _ [.int .i64 v] rfl (attr_own1 HS.out.bag) _ rfl rfl (by simp [Value.oneCell']) rfl (by unfold maxLen; omega) (by omega) HSZ.out ?_); intro v' w9 hown9 hb9 hn9 hg9; obtain ⟨D9, m9, rfl⟩ := own_shape hown9; obtain ⟨y0, y1, y2, g0, g1, g2, yl⟩ := (HS.out.turn1 hg9).2)
            obtain ⟨A9, c9, e9, hS9⟩ := HS.out.cut hown9 hb9 hg9 hn9
            injection e9 with e91 _ e92
            subst e91 e92
            have HS9 := hide (show OState w w.heap.size (w.heap.size + 1) _ D9 (K + 1) m9 none 0 0 ⟨qx, numsOf (L.take (K + 1)), []⟩ from by rw [← hval.out]; exact hS9)
            have hbk := hide (show ∀ k, Value.ownBlock (.slice D9 (K + 1) m9) = some k → w3.heap.size ≤ k from fun k hk => by
              rcases hn9 k hk with q | q
              · exact hown.out k q
              · have := hon.out.size; omega)
            have hon2 := hide ((hon.out.trans (Only.of_grown hg9 fun k hk => .inr (hown.out k hk))).setCell (p := ⟨w.heap.size + 1, 1, none⟩) (.inl rfl) (.slice D9 (K + 1) m9))
            clear hS9 hown9 hb9 hg9 hn9 x0 x1 x2 f0 f1 f2 xl y0 y1 y2 g0 g1 g2 yl hcell hadb
            go_wp2
            go_roundw
            case rel => exact ⟨K + 1, by omega, by go_num, ⟨D9, m9, HS9.out, hbk⟩, hok2, hon2⟩
            case measure => simp [intOf]; omega
        · obtain rfl : K = n3 := by omega
          have hall := hide (show L.take K = L from List.take_of_length_le (by have := HNL.out; omega))
          have HK := hide (HK1.out (by rw [← hall.out]; exact hok.out))
          obtain ⟨A, hA⟩ : ∃ A : AttrD, A = ⟨qx, numsOf L, []⟩ := ⟨_, rfl⟩
          replace HS := hide (show OState w w.heap.size (w.heap.size + 1) wr A1 K c1 none 0 0 A from by rw [hA]; have := HS.out; rw [hall.out] at this; exact this)
          rw [← hA] at HK HSM
          have hnm := hide (show A.name = qx by rw [hA])
          clear hA
          have HM := hide (attr_m HS.out.bag HSM.out)
          obtain ⟨x0, x1, x2, f0, f1, f2, xl⟩ := HS.out.box
          go_wp2_with (fail)
          refine (specAttrOk_any _ _ _ _ _ _ A _ HM.out).mono ?_
          rintro e u1 ⟨rfl, hb⟩
          replace HS := hide (HS.out.keep hb)
          clear hb x0 x1 x2 f0 f1 f2 xl HM
          have HM := hide (attr_m HS.out.bag HSM.out)
          cases hok : attrB A
          · have HF := hide (HK.out.trans (keepA_no1 hok))
            clear hok
            obtain ⟨x0, x1, x2, f0, f1, f2, xl⟩ := HS.out.box
            obtain ⟨r0, r1, r2, h0, h1, h2, rl⟩ := HS.out.res
            go_wp2
            obtain ⟨-, t2⟩ := HS.out.fin (.string ⟨#[]⟩) (.slice none 0 0) (.slice none 0 0)
            exact bodyPost_ret (v := .tuple #[.agg #[.string ⟨#[]⟩, .slice none 0 0, .slice none 0 0], .bool false]) (by simp [results, Tryd.results73, go_sem, r0, r1, r2]) rfl (attrPost_none HF.out t2)
          · have HOK := hide hok
            clear hok
            obtain ⟨x0, x1, x2, f0, f1, f2, xl⟩ := HS.out.box
            go_wp2_with (fail)
            refine (specAttrText_any _ _ _ _ _ _ A _ HM.out).mono ?_
            rintro e u2 ⟨rfl, hb⟩
            replace HS := hide (HS.out.keep hb)
            clear hb x0 x1 x2 f0 f1 f2 xl HM
            by_cases he : attrT A = s
            · have HF := hide (HK.out.trans (keepA_yes HOK.out he))
              have hne := str_beq he
              clear he
              obtain ⟨x0, x1, x2, f0, f1, f2, xl⟩ := HS.out.box
              obtain ⟨r0, r1, r2, h0, h1, h2, rl⟩ := HS.out.res
              go_wp2
              obtain ⟨t1, t2⟩ := HS.out.fin (.string A.name) (.slice A1 K c1) (.slice none 0 0)
              exact bodyPost_ret (v := .tuple #[.agg #[.string A.name, (.slice A1 K c1), (.slice none 0 0)], .bool true]) (by simp [results, Tryd.results73, go_sem, r0, r1, r2]) rfl (attrPost_some HF.out t1 t2)
            · have HF := hide (HK.out.trans (keepA_no2 he))
              have hne := str_beq_no he
              clear he
              obtain ⟨x0, x1, x2, f0, f1, f2, xl⟩ := HS.out.box
              obtain ⟨r0, r1, r2, h0, h1, h2, rl⟩ := HS.out.res
              go_wp2
              obtain ⟨-, t2⟩ := HS.out.fin (.string ⟨#[]⟩) (.slice none 0 0) (.slice none 0 0)
              exact bodyPost_ret (v := .tuple #[.agg #[.string ⟨#[]⟩, .slice none 0 0, .slice none 0 0], .bool false]) (by simp [results, Tryd.results73, go_sem, r0, r1, r2]) rfl (attrPost_none HF.out t2)
    · have hq2 : ((q : Int) == 2) = false := beq_eq_false_iff_ne.2 (by rw [HNQ.out]; omega)
      have HK := hide (show attrOf s = keepA s (some ⟨ByteArray.empty, [], []⟩) by rw [attrOf, candP_none h2 q2])
      have HSM := hide none_small
      clear HP HQ HNP HNQ h2 q2
      have HM := hide (attr_m HS.out.bag HSM.out)
      obtain ⟨x0, x1, x2, f0, f1, f2, xl⟩ := HS.out.box
      go_wp2_with (fail)
      refine (specAttrOk_any _ _ _ _ _ _ ⟨ByteArray.empty, [], []⟩ _ HM.out).mono ?_
      rintro e u1 ⟨rfl, hb⟩
      replace HS := hide (HS.out.keep hb)
      clear hb x0 x1 x2 f0 f1 f2 xl HM
      have HM := hide (attr_m HS.out.bag HSM.out)
      cases hok : attrB ⟨ByteArray.empty, [], []⟩
      · have HF := hide (HK.out.trans (keepA_no1 hok))
        clear hok
        obtain ⟨x0, x1, x2, f0, f1, f2, xl⟩ := HS.out.box
        obtain ⟨r0, r1, r2, h0, h1, h2, rl⟩ := HS.out.res
        go_wp2
        obtain ⟨-, t2⟩ := HS.out.fin (.string ⟨#[]⟩) (.slice none 0 0) (.slice none 0 0)
        exact bodyPost_ret (v := .tuple #[.agg #[.string ⟨#[]⟩, .slice none 0 0, .slice none 0 0], .bool false]) (by simp [results, Tryd.results73, go_sem, r0, r1, r2]) rfl (attrPost_none HF.out t2)
      · have HOK := hide hok
        clear hok
        obtain ⟨x0, x1, x2, f0, f1, f2, xl⟩ := HS.out.box
        go_wp2_with (fail)
        refine (specAttrText_any _ _ _ _ _ _ ⟨ByteArray.empty, [], []⟩ _ HM.out).mono ?_
        rintro e u2 ⟨rfl, hb⟩
        replace HS := hide (HS.out.keep hb)
        clear hb x0 x1 x2 f0 f1 f2 xl HM
        by_cases he : attrT ⟨ByteArray.empty, [], []⟩ = s
        · have HF := hide (HK.out.trans (keepA_yes HOK.out he))
          have hne := str_beq he
          clear he
          obtain ⟨x0, x1, x2, f0, f1, f2, xl⟩ := HS.out.box
          obtain ⟨r0, r1, r2, h0, h1, h2, rl⟩ := HS.out.res
          go_wp2
          obtain ⟨t1, t2⟩ := HS.out.fin (.string ⟨#[]⟩) (.slice none 0 0) (.slice none 0 0)
          exact bodyPost_ret (v := .tuple #[.agg #[.string ⟨#[]⟩, (.slice none 0 0), (.slice none 0 0)], .bool true]) (by simp [results, Tryd.results73, go_sem, r0, r1, r2]) rfl (attrPost_some HF.out t1 t2)
        · have HF := hide (HK.out.trans (keepA_no2 he))
          have hne := str_beq_no he
          clear he
          obtain ⟨x0, x1, x2, f0, f1, f2, xl⟩ := HS.out.box
          obtain ⟨r0, r1, r2, h0, h1, h2, rl⟩ := HS.out.res
          go_wp2
          obtain ⟨-, t2⟩ := HS.out.fin (.string ⟨#[]⟩) (.slice none 0 0) (.slice none 0 0)
          exact bodyPost_ret (v := .tuple #[.agg #[.string ⟨#[]⟩, .slice none 0 0, .slice none 0 0], .bool false]) (by simp [results, Tryd.results73, go_sem, r0, r1, r2]) rfl (attrPost_none HF.out t2)


set_option maxHeartbeats 4000000 in
theorem implAttrOf_any (s : ByteArray) (w : World) (hs : s.size ≤ 1048576) (hd : DoorS w) :
    Calls Tryd.prog 74 #[.string s] w (AttrPost s w) := by
  have HT0 := hide hd
  clear hd
  have hR0 := BoxA.new w (.string ⟨#[]⟩) (.slice none 0 0) (.slice none 0 0) 64
  obtain ⟨W0, hW0⟩ : ∃ W, W = w.alloc (.cells #[.string ⟨#[]⟩, .slice none 0 0, .slice none 0 0] 64) := ⟨_, rfl⟩
  have HZ0 := hide (show W0.heap.size = w.heap.size + 1 by rw [hW0]; simp)
  have hal0 : Below w.heap.size w W0 := by rw [hW0]; exact (Below.refl _ _).alloc (Nat.le_refl _) _
  rw [← hW0] at hR0
  have hX := BoxA.new W0 (.string ⟨#[]⟩) (.slice none 0 0) (.slice none 0 0) 64
  obtain ⟨W1, hW1⟩ : ∃ W, W = W0.alloc (.cells #[.string ⟨#[]⟩, .slice none 0 0, .slice none 0 0] 64) := ⟨_, rfl⟩
  have hal1 : Below W0.heap.size W0 W1 := by rw [hW1]; exact (Below.refl _ _).alloc (Nat.le_refl _) _
  rw [← hW1, HZ0.out] at hX
  have HW := hide (show W1 = (w.alloc (.cells #[.string ⟨#[]⟩, .slice none 0 0, .slice none 0 0] 64)).alloc (.cells #[.string ⟨#[]⟩, .slice none 0 0, .slice none 0 0] 64) by rw [hW1, hW0])
  have HS := hide (show OState w w.heap.size (w.heap.size + 1) W1 none 0 0 none 0 0 ⟨⟨#[]⟩, [], []⟩ from
    ⟨by omega, hR0.keep hal1, hX, attr_start _ _ _, (fun k e => by cases e), (fun k e => by cases e), bthen hal0 hal1⟩)
  have HZ := hide (show w.heap.size + 2 ≤ W1.heap.size by rw [hW1]; simp; have := HZ0.out; omega)
  clear hR0 hX hW0 hW1 hal0 hal1 HZ0
  go_enter Tryd.func74, Tryd.ntmps74
  go_wp2_with (fail)
  rw [← HW.out]
  refine (cut_any s 61 _ (HT0.out.keep HS.out.below) hs).mono ?_
  rintro e w1 ⟨x1, y1, ok1, rfl, hc1, q1, rfl⟩
  obtain ⟨w1, hw1⟩ : ∃ w1, w1 = W1.drewN q1 := ⟨_, rfl⟩
  rw [← hw1]
  have hb : Below W1.heap.size W1 w1 := by rw [hw1]; exact below_drewN (Below.refl _ _) _
  replace HS := hide (HS.out.keep hb)
  have HZ1 := hide (show w.heap.size + 2 ≤ w1.heap.size from Nat.le_trans HZ.out hb.size)
  have HC1 := hide hc1
  clear hb hc1 HW hw1
  cases ok1
  · go_wp2_with (fail)
    refine (cut_any s 58 _ (HT0.out.keep HS.out.below) hs).mono ?_
    rintro e w2 ⟨x2, y2, ok2, rfl, hc2, q2, rfl⟩
    obtain ⟨w2, hw2⟩ : ∃ w2, w2 = w1.drewN q2 := ⟨_, rfl⟩
    rw [← hw2]
    have hb : Below w1.heap.size w1 w2 := by rw [hw2]; exact below_drewN (Below.refl _ _) _
    replace HS := hide (HS.out.keep hb)
    have HZ2 := hide (show w.heap.size + 2 ≤ w2.heap.size from Nat.le_trans HZ1.out hb.size)
    have HC2 := hide hc2
    clear hb hc2 hw2
    cases ok2
    · have HK := hide (show attrOf s = keepA s (some ⟨ByteArray.empty, [], []⟩) from (candC_rt HC1.out HC2.out).symm)
      have HSM := hide none_small
      have HM := hide (attr_m HS.out.bag HSM.out)
      obtain ⟨x0, x1, x2, f0, f1, f2, xl⟩ := HS.out.box
      go_wp2_with (fail)
      refine (implAttrOk_any _ _ _ _ _ _ ⟨ByteArray.empty, [], []⟩ _ HM.out).mono ?_
      rintro e u1 ⟨rfl, hb⟩
      replace HS := hide (HS.out.keep hb)
      clear hb x0 x1 x2 f0 f1 f2 xl HM
      have HM := hide (attr_m HS.out.bag HSM.out)
      cases hok : attrB ⟨ByteArray.empty, [], []⟩
      · have HF := hide (HK.out.trans (keepA_no1 hok))
        clear hok
        obtain ⟨x0, x1, x2, f0, f1, f2, xl⟩ := HS.out.box
        obtain ⟨r0, r1, r2, h0, h1, h2, rl⟩ := HS.out.res
        go_wp2
        obtain ⟨-, t2⟩ := HS.out.fin (.string ⟨#[]⟩) (.slice none 0 0) (.slice none 0 0)
        exact bodyPost_ret (v := .tuple #[.agg #[.string ⟨#[]⟩, .slice none 0 0, .slice none 0 0], .bool false]) (by simp [results, Tryd.results74, go_sem, r0, r1, r2]) rfl (attrPost_none HF.out t2)
      · have HOK := hide hok
        clear hok
        obtain ⟨x0, x1, x2, f0, f1, f2, xl⟩ := HS.out.box
        go_wp2_with (fail)
        refine (implAttrText_any _ _ _ _ _ _ ⟨ByteArray.empty, [], []⟩ _ HM.out (HT0.out.keep HS.out.below).door.tab).mono ?_
        rintro e u2 ⟨rfl, hb⟩
        replace HS := hide (HS.out.keep hb)
        clear hb x0 x1 x2 f0 f1 f2 xl HM
        by_cases he : attrT ⟨ByteArray.empty, [], []⟩ = s
        · have HF := hide (HK.out.trans (keepA_yes HOK.out he))
          have hne := str_beq he
          clear he
          obtain ⟨x0, x1, x2, f0, f1, f2, xl⟩ := HS.out.box
          obtain ⟨r0, r1, r2, h0, h1, h2, rl⟩ := HS.out.res
          go_wp2
          obtain ⟨t1, t2⟩ := HS.out.fin (.string ⟨#[]⟩) (.slice none 0 0) (.slice none 0 0)
          exact bodyPost_ret (v := .tuple #[.agg #[.string ⟨#[]⟩, (.slice none 0 0), (.slice none 0 0)], .bool true]) (by simp [results, Tryd.results74, go_sem, r0, r1, r2]) rfl (attrPost_some HF.out t1 t2)
        · have HF := hide (HK.out.trans (keepA_no2 he))
          have hne := str_beq_no he
          clear he
          obtain ⟨x0, x1, x2, f0, f1, f2, xl⟩ := HS.out.box
          obtain ⟨r0, r1, r2, h0, h1, h2, rl⟩ := HS.out.res
          go_wp2
          obtain ⟨-, t2⟩ := HS.out.fin (.string ⟨#[]⟩) (.slice none 0 0) (.slice none 0 0)
          exact bodyPost_ret (v := .tuple #[.agg #[.string ⟨#[]⟩, .slice none 0 0, .slice none 0 0], .bool false]) (by simp [results, Tryd.results74, go_sem, r0, r1, r2]) rfl (attrPost_none HF.out t2)
    · obtain ⟨qx, hqx⟩ : ∃ qx, qx = x2 := ⟨_, rfl⟩
      obtain ⟨qy, hqy⟩ : ∃ qy, qy = y2 := ⟨_, rfl⟩
      rw [← hqx, ← hqy] at HC2
      rw [← hqx, ← hqy]
      clear hqx hqy
      have hsz : qx.size + 1 + qy.size = s.size := by
        rcases HC2.out with ⟨h, -⟩ | ⟨-, h, -⟩
        · cases h
        · rw [h, three_size]
      have HKC := hide (show keepA s (if numsOk (parts qy 44) = true then some ⟨qx, numsOf (parts qy 44), []⟩ else none) = attrOf s from candC_rt HC1.out HC2.out)
      have HK1 := hide (show numsOk (parts qy 44) = true → attrOf s = keepA s (some ⟨qx, numsOf (parts qy 44), []⟩) from fun h => by rw [← HKC.out, if_pos h])
      have HK0 := hide (show numsOk (parts qy 44) = false → attrOf s = none from fun h => by rw [← HKC.out, if_neg (by rw [h]; decide)]; rfl)
      have HSM := hide (cuts_small (x := qx) (y := qy) (by omega))
      have HP1 := hide (HS.out.set0 qx)
      have hpy : qy.size + 1 ≤ 1048576 := by omega
      have HZ3 := hide (show w.heap.size + 2 ≤ (w2.setCell ⟨w.heap.size + 1, 0, none⟩ (.string qx)).heap.size by simp; exact HZ2.out)
      clear hsz HKC
      obtain ⟨x0, x1, x2, f0, f1, f2, xl⟩ := HS.out.box
      go_wp2_with (fail)
      refine (implParts_any qy 44 _ (by omega)).mono ?_
      rintro e w3 ⟨D3, n3, m3, rfl, ho3, hn3, hb⟩
      have HSP := hide (HP1.out.keep hb)
      unfold OwnS at ho3
      rw [← hn3] at ho3
      have hb3 := hb.size
      clear HS
      clear hb x0 x1 x2 f0 f1 f2 xl HP1
      obtain ⟨L, hL⟩ : ∃ L, L = parts qy 44 := ⟨_, rfl⟩
      rw [← hL] at ho3 hn3
      have HLS := hide (strs_of ho3)
      have hblk := hide (show 0 < n3 → ∀ a, D3 = some a → ¬ (a.block = w.heap.size + 1 ∨ w3.heap.size ≤ a.block) from fun _ a e => by
        have := ho3.lt a.block (by rw [e]; rfl)
        have := HZ3.out
        omega)
      have hsz := hide (show ∀ p ∈ L, p.size ≤ 1048576 from fun p hp => by
        rw [hL] at hp
        have := part_le qy 44 p hp
        omega)
      have hn3' : n3 ≤ 1048576 := by rw [hn3, hL]; have := parts_len qy 44; omega
      have HNL := hide hn3
      rw [← hL] at HK1 HK0 HSM
      have HLL := hide hL
      have HZ4 := hide (show w.heap.size + 2 ≤ w3.heap.size by have := HSP.out.box.lt; omega)
      clear hL ho3 hn3 HZ3
      go_wp2
      go_loopw [39] (fun i W => ∃ K : Nat, K ≤ n3 ∧ i = .int .i64 K ∧ (∃ A1 c1, OState w w.heap.size (w.heap.size + 1) W A1 K c1 none 0 0 ⟨qx, numsOf (L.take K), []⟩ ∧ Hid (∀ k, Value.ownBlock (.slice A1 K c1) = some k → w3.heap.size ≤ k)) ∧ Hid (numsOk (L.take K) = true) ∧ Hid (Only (fun j => j = w.heap.size + 1 ∨ w3.heap.size ≤ j) w3 W)) (fun i _ => n3 - (intOf i).toNat)
      case atStart => exact ⟨0, Nat.zero_le _, rfl, ⟨none, 0, HSP.out, fun k e => by cases e⟩, (by show numsOk [] = true; rfl), Only.refl _ _⟩
      case round =>
        clear HSP
        obtain ⟨K, hk, rfl, ⟨A1, c1, hS, hown⟩, hok, hon⟩ := hrel
        have HS := hide hS
        clear hS
        have hLS := hide (Strs.only HLS.out hon.out hblk.out)
        by_cases hlt : K < n3
        · obtain ⟨ad, rfl, hadb, hcell⟩ := hLS.out.at_ hlt
          have hkl := hide (show K < L.length by have := HNL.out; omega)
          have hz := hsz.out (L[K]?.getD ByteArray.empty) (by rw [List.getElem?_eq_getElem hkl.out, Option.getD_some]; exact List.getElem_mem hkl.out)
          obtain ⟨p, hp⟩ : ∃ p, p = L[K]?.getD ByteArray.empty := ⟨_, rfl⟩
          rw [← hp] at hcell hz
          have HP := hide hp
          clear hp
          go_wp2_with (fail)
          refine (implSigned_any _ hz _ (HT0.out.keep HS.out.below).door).mono ?_
          rintro e w5 ⟨rfl, hb⟩
          replace HS := hide (HS.out.keep hb)
          replace hon := hide (hon.out.trans (Only.of_below hb))
          have hbz := hb.size
          clear hb
          obtain ⟨v, ok, hv⟩ : ∃ v ok, rdI p (-9999) 9999 = (v, ok) := ⟨_, _, rfl⟩
          have hrd := hide (show rdS (L[K]?.getD ByteArray.empty) = (v, ok) from (by rw [← HP.out]; exact hv))
          rw [hv]
          clear hv
          cases ok
          · have HF := hide (HK0.out (numsOk_no hkl.out (by rw [hrd.out])))
            obtain ⟨x0, x1, x2, f0, f1, f2, xl⟩ := HS.out.box
            obtain ⟨r0, r1, r2, h0, h1, h2, rl⟩ := HS.out.res
            go_wp2
            obtain ⟨-, t2⟩ := HS.out.fin (.string ⟨#[]⟩) (.slice none 0 0) (.slice none 0 0)
            exact bodyPost_ret (v := .tuple #[.agg #[.string ⟨#[]⟩, .slice none 0 0, .slice none 0 0], .bool false]) (by simp [results, Tryd.results74, go_sem, r0, r1, r2]) rfl (attrPost_none HF.out t2)
          · have hok2 := hide (numsOk_snoc hkl.out hok.out (by rw [hrd.out]))
            have hval := hide (show numsOf (L.take K) ++ [v] = numsOf (L.take (K + 1)) by rw [numsOf_snoc hkl.out, hrd.out])
            have HSZ := hide (show w.heap.size ≤ w5.heap.size from HS.out.below.size)
            have hnum : K + 1 ≤ 1048577 := by omega
            obtain ⟨x0, x1, x2, f0, f1, f2, xl⟩ := HS.out.box
            go_wp2_with (at_builtin; go_must (refine wpList_append_one w5 rfl _ _ 28 rfl w.heap.size 3 (.int .i64 0) 1 8 Tryd.underlying28 infoI rfl (by decide) _ K _ [.int .i64 v] rfl (attr_own1 HS.out.bag) _ rfl rfl (by simp [Value.oneCell']) rfl (by unfold maxLen; omega) (by omega) HSZ.out ?_); intro v' w9 hown9 hb9 hn9 hg9; obtain ⟨D9, m9, rfl⟩ := own_shape hown9; obtain ⟨y0, y1, y2, g0, g1, g2, yl⟩ := (HS.out.turn1 hg9).2)
            obtain ⟨A9, c9, e9, hS9⟩ := HS.out.cut hown9 hb9 hg9 hn9
            injection e9 with e91 _ e92
            subst e91 e92
            have HS9 := hide (show OState w w.heap.size (w.heap.size + 1) _ D9 (K + 1) m9 none 0 0 ⟨qx, numsOf (L.take (K + 1)), []⟩ from by rw [← hval.out]; exact hS9)
            have hbk := hide (show ∀ k, Value.ownBlock (.slice D9 (K + 1) m9) = some k → w3.heap.size ≤ k from fun k hk => by
              rcases hn9 k hk with q | q
              · exact hown.out k q
              · have := hon.out.size; omega)
            have hon2 := hide ((hon.out.trans (Only.of_grown hg9 fun k hk => .inr (hown.out k hk))).setCell (p := ⟨w.heap.size + 1, 1, none⟩) (.inl rfl) (.slice D9 (K + 1) m9))
            clear hS9 hown9 hb9 hg9 hn9 x0 x1 x2 f0 f1 f2 xl y0 y1 y2 g0 g1 g2 yl hcell hadb
            go_wp2
            go_roundw
            case rel => exact ⟨K + 1, by omega, by go_num, ⟨D9, m9, HS9.out, hbk⟩, hok2, hon2⟩
            case measure => simp [intOf]; omega
        · obtain rfl : K = n3 := by omega
          have hall := hide (show L.take K = L from List.take_of_length_le (by have := HNL.out; omega))
          have HK := hide (HK1.out (by rw [← hall.out]; exact hok.out))
          obtain ⟨A, hA⟩ : ∃ A : AttrD, A = ⟨qx, numsOf L, []⟩ := ⟨_, rfl⟩
          replace HS := hide (show OState w w.heap.size (w.heap.size + 1) wr A1 K c1 none 0 0 A from by rw [hA]; have := HS.out; rw [hall.out] at this; exact this)
          rw [← hA] at HK HSM
          have hnm := hide (show A.name = qx by rw [hA])
          clear hA
          have HM := hide (attr_m HS.out.bag HSM.out)
          obtain ⟨x0, x1, x2, f0, f1, f2, xl⟩ := HS.out.box
          go_wp2_with (fail)
          refine (implAttrOk_any _ _ _ _ _ _ A _ HM.out).mono ?_
          rintro e u1 ⟨rfl, hb⟩
          replace HS := hide (HS.out.keep hb)
          clear hb x0 x1 x2 f0 f1 f2 xl HM
          have HM := hide (attr_m HS.out.bag HSM.out)
          cases hok : attrB A
          · have HF := hide (HK.out.trans (keepA_no1 hok))
            clear hok
            obtain ⟨x0, x1, x2, f0, f1, f2, xl⟩ := HS.out.box
            obtain ⟨r0, r1, r2, h0, h1, h2, rl⟩ := HS.out.res
            go_wp2
            obtain ⟨-, t2⟩ := HS.out.fin (.string ⟨#[]⟩) (.slice none 0 0) (.slice none 0 0)
            exact bodyPost_ret (v := .tuple #[.agg #[.string ⟨#[]⟩, .slice none 0 0, .slice none 0 0], .bool false]) (by simp [results, Tryd.results74, go_sem, r0, r1, r2]) rfl (attrPost_none HF.out t2)
          · have HOK := hide hok
            clear hok
            obtain ⟨x0, x1, x2, f0, f1, f2, xl⟩ := HS.out.box
            go_wp2_with (fail)
            refine (implAttrText_any _ _ _ _ _ _ A _ HM.out (HT0.out.keep HS.out.below).door.tab).mono ?_
            rintro e u2 ⟨rfl, hb⟩
            replace HS := hide (HS.out.keep hb)
            clear hb x0 x1 x2 f0 f1 f2 xl HM
            by_cases he : attrT A = s
            · have HF := hide (HK.out.trans (keepA_yes HOK.out he))
              have hne := str_beq he
              clear he
              obtain ⟨x0, x1, x2, f0, f1, f2, xl⟩ := HS.out.box
              obtain ⟨r0, r1, r2, h0, h1, h2, rl⟩ := HS.out.res
              go_wp2
              obtain ⟨t1, t2⟩ := HS.out.fin (.string A.name) (.slice A1 K c1) (.slice none 0 0)
              exact bodyPost_ret (v := .tuple #[.agg #[.string A.name, (.slice A1 K c1), (.slice none 0 0)], .bool true]) (by simp [results, Tryd.results74, go_sem, r0, r1, r2]) rfl (attrPost_some HF.out t1 t2)
            · have HF := hide (HK.out.trans (keepA_no2 he))
              have hne := str_beq_no he
              clear he
              obtain ⟨x0, x1, x2, f0, f1, f2, xl⟩ := HS.out.box
              obtain ⟨r0, r1, r2, h0, h1, h2, rl⟩ := HS.out.res
              go_wp2
              obtain ⟨-, t2⟩ := HS.out.fin (.string ⟨#[]⟩) (.slice none 0 0) (.slice none 0 0)
              exact bodyPost_ret (v := .tuple #[.agg #[.string ⟨#[]⟩, .slice none 0 0, .slice none 0 0], .bool false]) (by simp [results, Tryd.results74, go_sem, r0, r1, r2]) rfl (attrPost_none HF.out t2)
  · obtain ⟨px, hqx⟩ : ∃ px, px = x1 := ⟨_, rfl⟩
    obtain ⟨py, hqy⟩ : ∃ py, py = y1 := ⟨_, rfl⟩
    rw [← hqx, ← hqy] at HC1
    rw [← hqx, ← hqy]
    clear hqx hqy
    have hsz : px.size + 1 + py.size = s.size := by
      rcases HC1.out with ⟨h, -⟩ | ⟨-, h, -⟩
      · cases h
      · rw [h, three_size]
    have HK := hide (show attrOf s = keepA s (some ⟨px, [], parts py 44⟩) from (candC_rt HC1.out (cutP 58 s)).symm)
    have HSM := hide (vals_small (x := px) (y := py) (by omega))
    have hpy : py.size ≤ 1048576 := by omega
    clear hsz
    go_wp2_with (fail)
    refine (implParts_any py 44 _ hpy).mono ?_
    rintro e w3 ⟨D3, n3, m3, rfl, ho3, hn3, hb⟩
    have HSP := hide (HS.out.keep hb)
    unfold OwnS at ho3
    rw [← hn3] at ho3
    clear HS
    have hbase : w3.ownsRow w.heap.size 9 1 (.slice D3 n3 m3) n3 ((parts py 44).map Value.string) := ((Bag.one (s := strRow D3 n3 m3 (parts py 44)) ho3).mono (by have := HZ1.out; omega)).own 0 (by omega)
    have hne : ∀ k, Value.ownBlock (.slice D3 n3 m3) = some k → k ≠ w.heap.size + 1 ∧ k ≠ w.heap.size := fun k hk => by have := (ho3.lt k hk).1; have := HZ1.out; omega
    have hown2 := own_only (own_only hbase (only_put (p := ⟨w.heap.size + 1, 0, none⟩) (.string px)) (fun k hk e => (hne k hk).1 (Eq.symm e))) (only_put (p := ⟨w.heap.size + 1, 1, none⟩) (.slice none 0 0)) (fun k hk e => (hne k hk).1 (Eq.symm e))
    have HS := hide (((HSP.out.set0 px).same1).vals hown2 hne (fun k hk => by cases hk))
    clear hb ho3 hn3 hbase hne hown2
    have HM := hide (attr_m HS.out.bag HSM.out)
    obtain ⟨x0, x1, x2, f0, f1, f2, xl⟩ := HSP.out.box
    go_wp2_with (fail)
    refine (implAttrOk_any _ _ _ _ _ _ ⟨px, [], parts py 44⟩ _ HM.out).mono ?_
    rintro e u1 ⟨rfl, hb⟩
    replace HS := hide (HS.out.keep hb)
    clear hb x0 x1 x2 f0 f1 f2 xl HM
    have HM := hide (attr_m HS.out.bag HSM.out)
    cases hok : attrB ⟨px, [], parts py 44⟩
    · have HF := hide (HK.out.trans (keepA_no1 hok))
      clear hok
      obtain ⟨x0, x1, x2, f0, f1, f2, xl⟩ := HS.out.box
      obtain ⟨r0, r1, r2, h0, h1, h2, rl⟩ := HS.out.res
      go_wp2
      obtain ⟨-, t2⟩ := HS.out.fin (.string ⟨#[]⟩) (.slice none 0 0) (.slice none 0 0)
      exact bodyPost_ret (v := .tuple #[.agg #[.string ⟨#[]⟩, .slice none 0 0, .slice none 0 0], .bool false]) (by simp [results, Tryd.results74, go_sem, r0, r1, r2]) rfl (attrPost_none HF.out t2)
    · have HOK := hide hok
      clear hok
      obtain ⟨x0, x1, x2, f0, f1, f2, xl⟩ := HS.out.box
      go_wp2_with (fail)
      refine (implAttrText_any _ _ _ _ _ _ ⟨px, [], parts py 44⟩ _ HM.out (HT0.out.keep HS.out.below).door.tab).mono ?_
      rintro e u2 ⟨rfl, hb⟩
      replace HS := hide (HS.out.keep hb)
      clear hb x0 x1 x2 f0 f1 f2 xl HM
      by_cases he : attrT ⟨px, [], parts py 44⟩ = s
      · have HF := hide (HK.out.trans (keepA_yes HOK.out he))
        have hne := str_beq he
        clear he
        obtain ⟨x0, x1, x2, f0, f1, f2, xl⟩ := HS.out.box
        obtain ⟨r0, r1, r2, h0, h1, h2, rl⟩ := HS.out.res
        go_wp2
        obtain ⟨t1, t2⟩ := HS.out.fin (.string px) (.slice none 0 0) (.slice D3 n3 m3)
        exact bodyPost_ret (v := .tuple #[.agg #[.string px, (.slice none 0 0), (.slice D3 n3 m3)], .bool true]) (by simp [results, Tryd.results74, go_sem, r0, r1, r2]) rfl (attrPost_some HF.out t1 t2)
      · have HF := hide (HK.out.trans (keepA_no2 he))
        have hne := str_beq_no he
        clear he
        obtain ⟨x0, x1, x2, f0, f1, f2, xl⟩ := HS.out.box
        obtain ⟨r0, r1, r2, h0, h1, h2, rl⟩ := HS.out.res
        go_wp2
        obtain ⟨-, t2⟩ := HS.out.fin (.string ⟨#[]⟩) (.slice none 0 0) (.slice none 0 0)
        exact bodyPost_ret (v := .tuple #[.agg #[.string ⟨#[]⟩, .slice none 0 0, .slice none 0 0], .bool false]) (by simp [results, Tryd.results74, go_sem, r0, r1, r2]) rfl (attrPost_none HF.out t2)
end Go.Proofs.YtohodehmidbmlaaDoor
namespace Go.Proofs.YtohodehmidbmlaaDoor
open Go.RowKit
set_option maxRecDepth 100000

/-- 'out = append(out, x)', x one element that has just been laid in the block g. -/
theorem wpList_append_at {P : Program} {ops : Array Oper} {rest : List Oper} {o : Oper} {a : Act} {Q : Exit → Act → World → Prop} {W : World} (w : World) (hgd : o.guard = none) (s x : Operand) (t : TypeId)
    (ho : o.op = .call { callee := .builtin .append, args := #[s, x], argTypes := #[t, t] })
    (base : Nat) (e : TypeId) (z : Value) (size bytes : Nat) (ht : P.underlying t = some (.slice e)) (hi : (P.info? e).map (fun i => (i.zero, i.size, i.bytes)) = some (some z, size, bytes)) (hzs : z.cells.size = size) (hsz : 0 < size)
    (v : Value) (n : Nat) (xs us : List Value) (hs : a.eval s = v) (hown : w.ownsRow base e size v n xs) (g : Nat) (hg : w.heap.size = g)
    (c : Nat) (hx : a.eval x = .slice (some ⟨g, 0, none⟩) 1 c) (hl : us.length = size) (h1 : ∀ u ∈ us, u.oneCell' = true) (hW : W = w.alloc (.cells us.toArray e))
    (h63 : n + 1 ≤ maxLen) (hbytes : (n + 1) * bytes ≤ 140737488355328) (hbase : base ≤ w.heap.size)
    (h : ∀ v' w', w'.ownsRow base e size v' (n + 1) (xs ++ us) → Below base w w' → (∀ g, v'.ownBlock = some g → v.ownBlock = some g ∨ w.heap.size ≤ g) → w.grownBy w' v.ownBlock → wpList P ops Q rest (a.put o.dst v') w') :
    wpList P ops Q (o :: rest) a W := by
  subst hg
  exact wpList_append_one w hgd s x t ho base e z size bytes ht hi hzs hsz v n xs us hs hown c hx hl h1 hW h63 hbytes hbase h

/-- The result's box r, the schema's box x, its rows. -/
structure TState (w : World) (r x : Nat) (W : World) (A : Option Addr) (n c : Nat) (D : Option Addr) (m k : Nat) (rr : Nat → Row) (d : SchemaD) : Prop where
  ord : w.heap.size ≤ r ∧ w.heap.size ≤ x ∧ r ≠ x
  res : BoxW W r (.slice none 0 0) (.slice none 0 0)
  box : BoxW W x (.slice A n c) (.slice D m k)
  sch : SchP w.heap.size W A n c D m k rr d
  ap1 : ∀ j, has (1 + 2 * n) rr j → j ≠ x ∧ j ≠ r
  ap2 : ∀ j, Value.ownBlock (.slice D m k) = some j → j ≠ x ∧ j ≠ r
  below : Below w.heap.size w W
section
variable {w W W2 : World} {r x : Nat} {A D : Option Addr} {n c m k : Nat} {rr : Nat → Row} {d : SchemaD}
theorem TState.keep (h : TState w r x W A n c D m k rr d) (hb : Below W.heap.size W W2) : TState w r x W2 A n c D m k rr d :=
  ⟨h.ord, h.res.keep hb, h.box.keep hb, h.sch.below hb, h.ap1, h.ap2, bthen h.below hb⟩
/-- What stays when a row is written or laid anew. -/
def TKept (w : World) (r x : Nat) (w9 : World) (A : Option Addr) (n c : Nat) (D : Option Addr) (m k : Nat) : Prop :=
  BoxW w9 r (.slice none 0 0) (.slice none 0 0) ∧ BoxW w9 x (.slice A n c) (.slice D m k) ∧ Below w.heap.size w w9
theorem TState.outer (h : TState w r x W A n c D m k rr d) : W.ownsRow w.heap.size 64 3 (.slice A n c) n (rr 0).xs := h.sch.to.outer h.sch.bag (by omega)
theorem TState.blk0 (h : TState w r x W A n c D m k rr d) {j : Nat} (hj : Value.ownBlock (.slice A n c) = some j) : has (1 + 2 * n) rr j := by
  refine ⟨0, by omega, ?_⟩
  unfold Row.blk
  rw [h.sch.to.head.2.2.1]
  exact hj
theorem TState.turn1 {w9 : World} (h : TState w r x W A n c D m k rr d) (hb : Below w.heap.size W w9) (hg : W.grownBy w9 (Value.ownBlock (.slice A n c))) : TKept w r x w9 A n c D m k := by
  have hs : Only (fun j => Value.ownBlock (.slice A n c) = some j) W w9 := Only.of_grown hg fun k hk => hk
  exact ⟨h.res.only hs (fun e => (h.ap1 _ (h.blk0 e)).2 rfl), h.box.only hs (fun e => (h.ap1 _ (h.blk0 e)).1 rfl), h.below.trans hb⟩
theorem TState.put1 {w9 : World} {A' : Option Addr} {n' c' : Nat} {rr' : Nat → Row} {d' : SchemaD} (h0 : TState w r x W A n c D m k rr d) (h : TKept w r x w9 A n c D m k)
    (hS : SchP w.heap.size w9 A' n' c' D m k rr' d') (hap : ∀ j, has (1 + 2 * n') rr' j → j ≠ x ∧ j ≠ r) : TState w r x (w9.setCell ⟨x, 0, none⟩ (.slice A' n' c')) A' n' c' D m k rr' d' := by
  have ho' := h0.ord
  have hs := only_put (w := w9) (p := ⟨x, 0, none⟩) (.slice A' n' c')
  have hlow : Below w.heap.size w9 (w9.setCell ⟨x, 0, none⟩ (.slice A' n' c')) := (Below.refl _ _).setCell (p := ⟨x, 0, none⟩) ho'.2.1 _
  exact ⟨ho', h.1.only hs (by show ¬ x = r; omega), h.2.1.set0 _,
    ⟨hS.bag.only hs (fun j hj e => (hap j hj).1 (Eq.symm e)), hS.to, own_only hS.cls hs (fun j hj e => (h0.ap2 j hj).1 (Eq.symm e)), hS.sep, hS.b1, hS.b2, hS.s1, hS.s2⟩, hap, h0.ap2, h.2.2.trans hlow⟩
/-- Classes laid anew, no attributes yet. -/
theorem tstate_first {W : World} {D : Option Addr} {m k : Nat} {l : List ByteArray} {r x : Nat} {w : World} (hord : w.heap.size ≤ r ∧ w.heap.size ≤ x ∧ r ≠ x) (hr : BoxW W r (.slice none 0 0) (.slice none 0 0)) (hx : BoxW W x (.slice none 0 0) (.slice D m k))
    (hl : W.ownsRow w.heap.size 9 1 (.slice D m k) m (l.map Value.string)) (hap : ∀ j, Value.ownBlock (.slice D m k) = some j → j ≠ x ∧ j ≠ r) (hm : m ≤ 1048576) (hs : ∀ s ∈ l, s.size ≤ 1048576) (hb : Below w.heap.size w W) :
    TState w r x W none 0 0 D m k (fun _ => ⟨64, 3, .slice none 0 0, 0, []⟩) ⟨[], l⟩ :=
  ⟨hord, hr, hx, ⟨Bag.one (s := ⟨64, 3, .slice none 0 0, 0, []⟩) (World.ownsRow_nil _ _ _ _), ⟨rfl, ⟨rfl, rfl, rfl, rfl⟩, fun i hi => by omega⟩, hl, (fun g _ hr => by
      obtain ⟨i, -, e⟩ := hr
      cases e), by omega, hm, by simp, hs⟩, (fun j hj => by obtain ⟨i, -, e⟩ := hj; cases e), hap, hb⟩
/-- One attribute more. -/
theorem TState.attr {W6 w9 : World} {D1 D2 : Option Addr} {n1 m1 n2 m2 : Nat} {a : AttrD} {v : Value} (h0 : TState w r x W A n c D m k rr d) (h : TState w r x W6 A n c D m k rr d)
    (ho : Bag W.heap.size 2 W6 (attrRows D1 n1 m1 D2 n2 m2 a)) (hsz : W.heap.size ≤ W6.heap.size)
    (hv : w9.ownsRow w.heap.size 64 3 v (n + 1) ((rr 0).xs ++ [.string a.name, .slice D1 n1 m1, .slice D2 n2 m2])) (hb : Below w.heap.size W6 w9) (hg : W6.grownBy w9 (Value.ownBlock (.slice A n c)))
    (hnew : ∀ g, v.ownBlock = some g → Value.ownBlock (.slice A n c) = some g ∨ W6.heap.size ≤ g) (hn : n + 1 ≤ 1048576) (hs : attrSmall a) :
    ∃ A2 c2 r', v = .slice A2 (n + 1) c2 ∧ TState w r x (w9.setCell ⟨x, 0, none⟩ v) A2 (n + 1) c2 D m k r' ⟨d.attrs ++ [a], d.classes⟩ := by
  obtain ⟨A2, c2, r', rfl, hS, hh⟩ := h.sch.attr ho h0.below.size hsz (fun j hj => (h0.sch.bag.lt hj).2) (fun g hg => (h0.sch.cls.lt g hg).2) hv hg hnew hn hs
  refine ⟨A2, c2, r', rfl, h.put1 (h.turn1 hb hg) hS fun j hj => ?_⟩
  rcases hh j hj with q | q
  · exact h.ap1 j q
  · have := h0.box.lt; have := h0.res.lt; omega
/-- The result written. -/
theorem TState.fin (h : TState w r x W A n c D m k rr d) (u0 u1 : Value) : SchP w.heap.size ((W.setCell ⟨r, 0, none⟩ u0).setCell ⟨r, 1, none⟩ u1) A n c D m k rr d ∧
    Below w.heap.size w ((W.setCell ⟨r, 0, none⟩ u0).setCell ⟨r, 1, none⟩ u1) := by
  have hs : Only (fun j => r = j) W ((W.setCell ⟨r, 0, none⟩ u0).setCell ⟨r, 1, none⟩ u1) := ((Only.refl _ W).setCell (p := ⟨r, 0, none⟩) rfl _).setCell (p := ⟨r, 1, none⟩) rfl _
  have hlow : Below w.heap.size W ((W.setCell ⟨r, 0, none⟩ u0).setCell ⟨r, 1, none⟩ u1) := ((Below.refl _ _).setCell (p := ⟨r, 0, none⟩) h.ord.1 _).setCell (p := ⟨r, 1, none⟩) h.ord.1 _
  exact ⟨⟨h.sch.bag.only hs (fun j hj e => (h.ap1 j hj).2 (Eq.symm e)), h.sch.to, own_only h.sch.cls hs (fun j hj e => (h.ap2 j hj).2 (Eq.symm e)), h.sch.sep, h.sch.b1, h.sch.b2, h.sch.s1, h.sch.s2⟩, h.below.trans hlow⟩
end
end Go.Proofs.YtohodehmidbmlaaDoor
namespace Go.Proofs.YtohodehmidbmlaaDoor
open Go.RowKit
set_option maxRecDepth 100000

def schemaZ : SchemaD := ⟨[], []⟩
/-- How a reading of a schema ends. -/
def SchemaPost (s : ByteArray) (w : World) (e : Ending) (w' : World) : Prop := ∃ x0 x1, e = .returned (.tuple #[.agg #[x0, x1], .bool (schemaOf s).isSome]) ∧ SchemaO w.heap.size w'.heap.size w' x0 x1 ((schemaOf s).getD schemaZ) ∧ Below w.heap.size w w'
theorem schemaO_nil (B : Nat) (w : World) : SchemaO B w.heap.size w (.slice none 0 0) (.slice none 0 0) schemaZ :=
  SchP.o (r := fun _ => ⟨64, 3, .slice none 0 0, 0, []⟩) ⟨Bag.one (s := ⟨64, 3, .slice none 0 0, 0, []⟩) (World.ownsRow_nil _ _ _ _), ⟨rfl, ⟨rfl, rfl, rfl, rfl⟩, fun i hi => by omega⟩, World.ownsRow_nil _ _ _ _, (fun g hg => by cases hg), by omega, by omega, by simp [schemaZ], by simp [schemaZ]⟩
theorem schemaPost_none {s : ByteArray} {w w' : World} (h : schemaOf s = none) (hb : Below w.heap.size w w') : SchemaPost s w (.returned (.tuple #[.agg #[.slice none 0 0, .slice none 0 0], .bool false])) w' :=
  ⟨_, _, by rw [h]; rfl, by rw [h]; exact schemaO_nil _ _, hb⟩
theorem schemaPost_some {s : ByteArray} {w w' : World} {d : SchemaD} {x0 x1 : Value} (h : schemaOf s = some d) (ho : SchemaO w.heap.size w'.heap.size w' x0 x1 d) (hb : Below w.heap.size w w') :
    SchemaPost s w (.returned (.tuple #[.agg #[x0, x1], .bool true])) w' :=
  ⟨_, _, by rw [h]; rfl, by rw [h]; exact ho, hb⟩
theorem attrZ_small (s : ByteArray) : attrSmall ((attrOf s).getD attrZ) := by
  rcases h : attrOf s with _ | a
  · exact none_small
  · exact attrB_small (attrOf_some h).1
theorem read_snoc {L : List ByteArray} {K : Nat} (h : K < L.length) (hok : (attrOf (L[K]?.getD ByteArray.empty)).isSome = true) :
    attrsOf (L.take K) ++ [(attrOf (L[K]?.getD ByteArray.empty)).getD attrZ] = attrsOf (L.take (K + 1)) := by
  rw [attrsOf_snoc h]
  obtain ⟨a, ha⟩ := Option.isSome_iff_exists.1 hok
  rw [ha]; rfl
/-- An attribute that was read, with its rows. -/
def ReadB (a : AttrD) (ok : Bool) (w : World) (e : Ending) (w' : World) : Prop := ∃ A1 n1 c1 A2 n2 c2, e = .returned (.tuple #[.agg #[.string a.name, .slice A1 n1 c1, .slice A2 n2 c2], .bool ok]) ∧
  Bag w.heap.size 2 w' (attrRows A1 n1 c1 A2 n2 c2 a) ∧ Below w.heap.size w w'
theorem specAttrOf_read {s : ByteArray} {a : AttrD} {ok : Bool} (w : World) (hs : s.size ≤ 1048576) (ha : (attrOf s).getD attrZ = a) (ho : (attrOf s).isSome = ok) :
    Calls Tryd.prog 73 #[.string s] w (ReadB a ok w) := by
  have := specAttrOf_any s w hs
  unfold AttrPost at this
  rw [ha, ho] at this
  exact this
theorem implAttrOf_read {s : ByteArray} {a : AttrD} {ok : Bool} (w : World) (hs : s.size ≤ 1048576) (hd : DoorS w) (ha : (attrOf s).getD attrZ = a) (ho : (attrOf s).isSome = ok) :
    Calls Tryd.prog 74 #[.string s] w (ReadB a ok w) := by
  have := implAttrOf_any s w hs hd
  unfold AttrPost at this
  rw [ha, ho] at this
  exact this
theorem keepS_no {d : SchemaD} (h : schemaB d = false) : keepS d = none := by unfold keepS; rw [h]; rfl
theorem keepS_yes {d : SchemaD} (h : schemaB d = true) : keepS d = some d := by unfold keepS; rw [h]; rfl
theorem schemaFB_no {x y : ByteArray} (h : attrsOk (parts x 59) = false) : schemaFB x y = none := by unfold schemaFB; rw [h]; rfl
theorem schemaFB_yes {x y : ByteArray} (h : attrsOk (parts x 59) = true) : schemaFB x y = keepS ⟨attrsOf (parts x 59), parts y 44⟩ := by unfold schemaFB; rw [h]; rfl


set_option maxHeartbeats 16000000 in
theorem specSchemaOf_any (s : ByteArray) (w : World) (hs : s.size ≤ 1048576) :
    Calls Tryd.prog 34 #[.string s] w (SchemaPost s w) := by
  have hR0 := BoxW.new w (.slice none 0 0) (.slice none 0 0) 35
  obtain ⟨W0, hW0⟩ : ∃ W, W = w.alloc (.cells #[.slice none 0 0, .slice none 0 0] 35) := ⟨_, rfl⟩
  have HZ0 := hide (show W0.heap.size = w.heap.size + 1 by rw [hW0]; simp)
  have hal0 : Below w.heap.size w W0 := by rw [hW0]; exact (Below.refl _ _).alloc (Nat.le_refl _) _
  rw [← hW0] at hR0
  have HW := hide hW0
  clear hW0
  go_enter Tryd.func34, Tryd.ntmps34
  go_wp2_with (fail)
  rw [← HW.out]
  refine (specParts_any s 124 _ hs).mono ?_
  rintro e w1 ⟨D, n, m, rfl, ho1, hn1, hb⟩
  have hRp := hR0.keep hb
  have hBp := bthen hal0 hb
  have HP := hide ho1
  have HNP := hide hn1
  clear hb ho1 hn1 HW hR0
  by_cases h2 : (parts s 124).length = 2
  · obtain ⟨x, y, hp, hse, -, -⟩ := parts_pair (s := s) (b := 124) h2
    have hp' : parts s 124 = [x, y] := hp
    have hszz : x.size + 1 + y.size = s.size := by rw [hse, three_size]
    have hn2 : n = 2 := by rw [HNP.out, h2]
    subst hn2
    have hown := HP.out
    unfold OwnS at hown
    rw [hp'] at hown
    have hown2 : w1.ownsRow W0.heap.size 9 1 (.slice D 2 m) 2 [.string x, .string y] := hown
    obtain ⟨g, rfl, hg1, hg2⟩ := own_form hown2 (by omega)
    have hc0 : w1.cell? ⟨g, 0, none⟩ = some (.string x) := hown2.cellAt 0 (by omega)
    have hc1 : w1.cell? ⟨g, 1, none⟩ = some (.string y) := hown2.cellAt 1 (by omega)
    have hgx : w.heap.size < g := by have := HZ0.out; omega
    have HK1 := hide (show attrsOk (parts x 59) = true → schemaOf s = keepS ⟨attrsOf (parts x 59), parts y 44⟩ from fun h => by rw [schemaOf, if_pos h2, hp']; exact schemaFB_yes h)
    have HK0 := hide (show attrsOk (parts x 59) = false → schemaOf s = none from fun h => by rw [schemaOf, if_pos h2, hp']; exact schemaFB_no h)
    have hpx : x.size + 1 ≤ 1048576 := by omega
    have hpy : y.size + 1 ≤ 1048576 := by omega
    have hcy := hide (show ∀ W : World, Below w1.heap.size w1 W → g < W.heap.size ∧ W.cell? ⟨g, 0, none⟩ = some (.string x) from fun W hb => ⟨Nat.lt_of_lt_of_le hg2 hb.size, (hb.cell (p := ⟨g, 0, none⟩) hg2).trans hc0⟩)
    clear hp hse hp' hown hown2 h2 HP HNP hszz
    go_wp2_with (fail)
    refine (specParts_any y 44 _ (by omega)).mono ?_
    rintro e w2 ⟨D2, m2, k2, rfl, ho2, hn2, hb⟩
    have hR2 := hRp.keep hb
    have hB2 := bthen hBp hb
    have hpz := hBp.size
    have hal := (Below.refl w2.heap.size w2).alloc (Nat.le_refl _) (.cells #[.slice none 0 0, .slice D2 m2 k2] 35)
    unfold OwnS at ho2
    rw [← hn2] at ho2
    have hmm : m2 ≤ 1048576 := by rw [hn2]; have := parts_len y 44; omega
    have hw2 := hb.size
    have hRl := hRp.lt
    have HSP := hide (tstate_first (W := w2.alloc (.cells #[.slice none 0 0, .slice D2 m2 k2] 35)) (D := D2) (m := m2) (k := k2) (l := parts y 44) (r := w.heap.size) (x := w2.heap.size) (w := w) (by omega) (hR2.keep hal) (BoxW.new _ _ _ _)
      (own_below (((Bag.one (s := strRow D2 m2 k2 (parts y 44)) ho2).mono hpz).own 0 (by omega)) hal) (fun k hk => by have := ho2.lt k hk; omega) hmm (fun q hq => by have := part_le y 44 q hq; omega) (bthen hB2 hal))
    have HX := hide (show w.heap.size < w2.heap.size by omega)
    obtain ⟨hgl, hgc⟩ := hcy.out _ (bthen hb hal)
    clear hb hn2 ho2 hR2 hB2 hpz hal hmm hw2 hRl hRp hBp
    obtain ⟨x0, x1, f0, f1, xl⟩ := HSP.out.box
    go_wp2_with (fail)
    refine (specParts_any x 59 _ (by omega)).mono ?_
    rintro e w3 ⟨D3, n3, m3, rfl, ho3, hn3, hb⟩
    replace HSP := hide (HSP.out.keep hb)
    have HZ3 := hide (show w2.heap.size + 1 ≤ w3.heap.size by have := hb.size; simpa using this)
    unfold OwnS at ho3
    rw [← hn3] at ho3
    clear hb x0 x1 f0 f1 xl
    obtain ⟨L, hL⟩ : ∃ L, L = parts x 59 := ⟨_, rfl⟩
    rw [← hL] at ho3 hn3
    have HLS := hide (strs_of ho3)
    have hblk := hide (show 0 < n3 → ∀ a, D3 = some a → ¬ (a.block = w2.heap.size ∨ w3.heap.size ≤ a.block) from fun _ a e => by
      have := ho3.lt a.block (by rw [e]; rfl)
      simp at this
      omega)
    have hsz := hide (show ∀ p ∈ L, p.size ≤ 1048576 from fun p hp => by
      rw [hL] at hp
      have := part_le x 59 p hp
      omega)
    have hn3' : n3 ≤ 1048576 := by rw [hn3, hL]; have := parts_len x 59; omega
    have HNL := hide hn3
    rw [← hL] at HK1 HK0
    clear hL ho3 hn3
    go_wp2
    go_loopw [7] (fun i W => ∃ K : Nat, K ≤ n3 ∧ i = .int .i64 K ∧ (∃ A c rr, TState w w.heap.size w2.heap.size W A K c D2 m2 k2 rr ⟨attrsOf (L.take K), parts y 44⟩ ∧ Hid (∀ g, Value.ownBlock (.slice A K c) = some g → w3.heap.size ≤ g)) ∧ Hid (attrsOk (L.take K) = true) ∧ Hid (Only (fun j => j = w2.heap.size ∨ w3.heap.size ≤ j) w3 W)) (fun i _ => n3 - (intOf i).toNat)
    case atStart => exact ⟨0, Nat.zero_le _, rfl, ⟨none, 0, _, HSP.out, fun k e => by cases e⟩, (by show attrsOk [] = true; rfl), Only.refl _ _⟩
    case round =>
      clear HSP
      obtain ⟨K, hk, rfl, ⟨A, c, rr, hS, hown⟩, hok, hon⟩ := hrel
      have HS := hide hS
      clear hS
      have hLS := hide (Strs.only HLS.out hon.out hblk.out)
      by_cases hlt : K < n3
      · obtain ⟨ad, rfl, hadb, hcell⟩ := hLS.out.at_ hlt
        have hkl := hide (show K < L.length by have := HNL.out; omega)
        have hz := hsz.out (L[K]?.getD ByteArray.empty) (by rw [List.getElem?_eq_getElem hkl.out, Option.getD_some]; exact List.getElem_mem hkl.out)
        obtain ⟨p, hp⟩ : ∃ p, p = L[K]?.getD ByteArray.empty := ⟨_, rfl⟩
        rw [← hp] at hcell hz
        have HP := hide hp
        clear hp
        obtain ⟨a, ha⟩ : ∃ a, (attrOf p).getD attrZ = a := ⟨_, rfl⟩
        obtain ⟨ok, ho⟩ : ∃ ok, (attrOf p).isSome = ok := ⟨_, rfl⟩
        have HA := hide ha
        have HO := hide ho
        have HAS := hide (show attrSmall a by rw [← ha]; exact attrZ_small p)
        clear ha ho
        go_wp2_with (fail)
        refine (specAttrOf_read _ hz HA.out HO.out).mono ?_
        rintro e w5 ⟨D1, n1, m1, E1, n2, c2, rfl, hbag, hb⟩
        have hal := (Below.refl w5.heap.size w5).alloc (Nat.le_refl _) (.cells #[.string a.name, .slice D1 n1 m1, .slice E1 n2 c2] 64)
        have HS6 := hide ((HS.out.keep hb).keep hal)
        have HB6 := hide (hbag.below hal)
        have HWZ := hide (show wr.heap.size ≤ (w5.alloc (.cells #[.string a.name, .slice D1 n1 m1, .slice E1 n2 c2] 64)).heap.size from (bthen hb hal).size)
        replace hon := hide (hon.out.trans (Only.of_below (bthen hb hal)))
        clear hb hbag hal
        cases ok
        · have HF := hide (HK0.out (attrsOk_no hkl.out (by rw [← HP.out]; exact HO.out)))
          obtain ⟨x0, x1, f0, f1, xl⟩ := HS6.out.box
          obtain ⟨r0, r1, h0, h1, rl⟩ := HS6.out.res
          go_wp2
          obtain ⟨-, t2⟩ := HS6.out.fin (.slice none 0 0) (.slice none 0 0)
          exact bodyPost_ret (v := .tuple #[.agg #[.slice none 0 0, .slice none 0 0], .bool false]) (by simp [results, Tryd.results34, go_sem, r0, r1]) rfl (schemaPost_none HF.out t2)
        · have hok2 := hide (attrsOk_snoc hkl.out hok.out (by rw [← HP.out]; exact HO.out))
          have hval := hide (show attrsOf (L.take K) ++ [a] = attrsOf (L.take (K + 1)) by
            have := read_snoc hkl.out (by rw [← HP.out]; exact HO.out)
            rw [← HP.out, HA.out] at this
            exact this)
          have HSZ := hide HS6.out.below.size
          have hnum : K + 1 ≤ 1048576 := by omega
          obtain ⟨x0, x1, f0, f1, xl⟩ := HS6.out.box
          go_wp2_with (at_builtin; go_must (refine wpList_append_at (w5.alloc (.cells #[.string a.name, .slice D1 n1 m1, .slice E1 n2 c2] 64)) rfl _ _ 33 rfl w.heap.size 64 (.agg #[.string ⟨#[]⟩, .slice none 0 0, .slice none 0 0]) 3 64 Tryd.underlying33 infoA rfl (by decide) _ K (rr 0).xs [.string a.name, .slice D1 n1 m1, .slice E1 n2 c2] rfl HS6.out.outer (w5.heap.size + 1) (by simp) _ rfl rfl (by simp [Value.oneCell']) rfl (by unfold maxLen; omega) (by omega) HSZ.out ?_); intro v' w9 hown9 hb9 hn9 hg9; obtain ⟨D9, m9, rfl⟩ := own_shape hown9; obtain ⟨y0, y1, g0, g1, yl⟩ := (HS6.out.turn1 hb9 hg9).2.1)
          obtain ⟨A9, c9, r9, e9, hS9⟩ := TState.attr HS.out HS6.out HB6.out HWZ.out hown9 hb9 hg9 hn9 hnum HAS.out
          injection e9 with e91 _ e92
          subst e91 e92
          have HS9 := hide (show TState w w.heap.size w2.heap.size _ D9 (K + 1) m9 D2 m2 k2 r9 ⟨attrsOf (L.take (K + 1)), parts y 44⟩ from by rw [← hval.out]; exact hS9)
          have hbk := hide (show ∀ k, Value.ownBlock (.slice D9 (K + 1) m9) = some k → w3.heap.size ≤ k from fun k hk => by
            rcases hn9 k hk with q | q
            · exact hown.out k q
            · have := hon.out.size; omega)
          have hon2 := hide ((hon.out.trans (Only.of_grown hg9 fun k hk => .inr (hown.out k hk))).setCell (p := ⟨w2.heap.size, 0, none⟩) (.inl rfl) (.slice D9 (K + 1) m9))
          clear hS9 hown9 hb9 hg9 hn9 x0 x1 f0 f1 xl y0 y1 g0 g1 yl hcell hadb
          go_wp2
          go_roundw
          case rel => exact ⟨K + 1, by omega, by go_num, ⟨D9, m9, r9, HS9.out, hbk⟩, hok2, hon2⟩
          case measure => simp [intOf]; omega
      · obtain rfl : K = n3 := by omega
        have hall := hide (show L.take K = L from List.take_of_length_le (by have := HNL.out; omega))
        have HK := hide (HK1.out (by rw [← hall.out]; exact hok.out))
        obtain ⟨d, hd⟩ : ∃ d : SchemaD, d = ⟨attrsOf L, parts y 44⟩ := ⟨_, rfl⟩
        replace HS := hide (show TState w w.heap.size w2.heap.size wr A K c D2 m2 k2 rr d from by rw [hd]; have := HS.out; rw [hall.out] at this; exact this)
        rw [← hd] at HK
        clear hd
        obtain ⟨x0, x1, f0, f1, xl⟩ := HS.out.box
        go_wp2_with (fail)
        refine (specSchemaOk_any _ _ d _ HS.out.sch.o.m).mono ?_
        rintro e w5 ⟨rfl, hb⟩
        replace HS := hide (HS.out.keep hb)
        clear hb x0 x1 f0 f1 xl
        cases hsb : schemaB d
        · have HF := hide (HK.out.trans (keepS_no hsb))
          clear hsb
          obtain ⟨x0, x1, f0, f1, xl⟩ := HS.out.box
          obtain ⟨r0, r1, h0, h1, rl⟩ := HS.out.res
          go_wp2
          obtain ⟨-, t2⟩ := HS.out.fin (.slice none 0 0) (.slice none 0 0)
          exact bodyPost_ret (v := .tuple #[.agg #[.slice none 0 0, .slice none 0 0], .bool false]) (by simp [results, Tryd.results34, go_sem, r0, r1]) rfl (schemaPost_none HF.out t2)
        · have HF := hide (HK.out.trans (keepS_yes hsb))
          clear hsb
          obtain ⟨x0, x1, f0, f1, xl⟩ := HS.out.box
          obtain ⟨r0, r1, h0, h1, rl⟩ := HS.out.res
          go_wp2
          obtain ⟨t1, t2⟩ := HS.out.fin (.slice A K c) (.slice D2 m2 k2)
          exact bodyPost_ret (v := .tuple #[.agg #[.slice A K c, .slice D2 m2 k2], .bool true]) (by simp [results, Tryd.results34, go_sem, r0, r1]) rfl (schemaPost_some HF.out t1.o t2)
  · have hne : ((n : Int) == 2) = false := beq_eq_false_iff_ne.2 (by rw [HNP.out]; omega)
    have hne2 : ((n : Int) != 2) = true := by rw [bne_iff_ne]; rw [HNP.out]; omega
    have HF := hide (show schemaOf s = none by rw [schemaOf, if_neg h2])
    obtain ⟨r0, r1, h0, h1, rl⟩ := hRp
    have hlow : Below w.heap.size w _ := ((hBp).setCell (p := ⟨w.heap.size, 0, none⟩) (Nat.le_refl _) (.slice none 0 0)).setCell (p := ⟨w.heap.size, 1, none⟩) (Nat.le_refl _) (.slice none 0 0)
    go_wp2
    exact bodyPost_ret (v := .tuple #[.agg #[.slice none 0 0, .slice none 0 0], .bool false]) (by simp [results, Tryd.results34, go_sem, r0, r1]) rfl (schemaPost_none HF.out hlow)


set_option maxHeartbeats 16000000 in
theorem implSchemaOf_any (s : ByteArray) (w : World) (hs : s.size ≤ 1048576) (hd : DoorS w) :
    Calls Tryd.prog 33 #[.string s] w (SchemaPost s w) := by
  have HT0 := hide hd
  clear hd
  have hR0 := BoxW.new w (.slice none 0 0) (.slice none 0 0) 35
  obtain ⟨W0, hW0⟩ : ∃ W, W = w.alloc (.cells #[.slice none 0 0, .slice none 0 0] 35) := ⟨_, rfl⟩
  have HZ0 := hide (show W0.heap.size = w.heap.size + 1 by rw [hW0]; simp)
  have hal0 : Below w.heap.size w W0 := by rw [hW0]; exact (Below.refl _ _).alloc (Nat.le_refl _) _
  rw [← hW0] at hR0
  have HW := hide hW0
  clear hW0
  go_enter Tryd.func33, Tryd.ntmps33
  go_wp2_with (fail)
  rw [← HW.out]
  refine (cut_any s 124 _ (HT0.out.keep hal0) hs).mono ?_
  rintro e w1 ⟨x1, y1, ok1, rfl, hc1, q1, rfl⟩
  obtain ⟨w1, hw1⟩ : ∃ w1, w1 = W0.drewN q1 := ⟨_, rfl⟩
  rw [← hw1]
  have hb : Below W0.heap.size W0 w1 := by rw [hw1]; exact below_drewN (Below.refl _ _) _
  have hRp := hR0.keep hb
  have hBp := bthen hal0 hb
  have HC1 := hide (schemaC_eq hc1)
  have HC := hide hc1
  clear hb hc1 HW hw1 hR0 HZ0
  cases ok1
  · have HF := hide (show schemaOf s = none from HC1.out.symm)
    obtain ⟨r0, r1, h0, h1, rl⟩ := hRp
    have hlow : Below w.heap.size w _ := ((hBp).setCell (p := ⟨w.heap.size, 0, none⟩) (Nat.le_refl _) (.slice none 0 0)).setCell (p := ⟨w.heap.size, 1, none⟩) (Nat.le_refl _) (.slice none 0 0)
    go_wp2
    exact bodyPost_ret (v := .tuple #[.agg #[.slice none 0 0, .slice none 0 0], .bool false]) (by simp [results, Tryd.results33, go_sem, r0, r1]) rfl (schemaPost_none HF.out hlow)
  · obtain ⟨x, hqx⟩ : ∃ px, px = x1 := ⟨_, rfl⟩
    obtain ⟨y, hqy⟩ : ∃ py, py = y1 := ⟨_, rfl⟩
    rw [← hqx, ← hqy] at HC1 HC
    rw [← hqx, ← hqy]
    clear hqx hqy
    have hszz : x.size + 1 + y.size = s.size := by
      rcases HC.out with ⟨h, -⟩ | ⟨-, h, -⟩
      · cases h
      · rw [h, three_size]
    have HK1 := hide (show attrsOk (parts x 59) = true → schemaOf s = keepS ⟨attrsOf (parts x 59), parts y 44⟩ from fun h => HC1.out.symm.trans (schemaFB_yes h))
    have HK0 := hide (show attrsOk (parts x 59) = false → schemaOf s = none from fun h => HC1.out.symm.trans (schemaFB_no h))
    have hpx : x.size + 1 ≤ 1048576 := by omega
    have hpy : y.size + 1 ≤ 1048576 := by omega
    clear hszz
    go_wp2_with (fail)
    refine (implParts_any y 44 _ (by omega)).mono ?_
    rintro e w2 ⟨D2, m2, k2, rfl, ho2, hn2, hb⟩
    have hR2 := hRp.keep hb
    have hB2 := bthen hBp hb
    have hpz := hBp.size
    have hal := (Below.refl w2.heap.size w2).alloc (Nat.le_refl _) (.cells #[.slice none 0 0, .slice D2 m2 k2] 35)
    unfold OwnS at ho2
    rw [← hn2] at ho2
    have hmm : m2 ≤ 1048576 := by rw [hn2]; have := parts_len y 44; omega
    have hw2 := hb.size
    have hRl := hRp.lt
    have HSP := hide (tstate_first (W := w2.alloc (.cells #[.slice none 0 0, .slice D2 m2 k2] 35)) (D := D2) (m := m2) (k := k2) (l := parts y 44) (r := w.heap.size) (x := w2.heap.size) (w := w) (by omega) (hR2.keep hal) (BoxW.new _ _ _ _)
      (own_below (((Bag.one (s := strRow D2 m2 k2 (parts y 44)) ho2).mono hpz).own 0 (by omega)) hal) (fun k hk => by have := ho2.lt k hk; omega) hmm (fun q hq => by have := part_le y 44 q hq; omega) (bthen hB2 hal))
    have HX := hide (show w.heap.size < w2.heap.size by omega)
    clear hb hn2 ho2 hR2 hB2 hpz hal hmm hw2 hRl hRp hBp
    obtain ⟨x0, x1, f0, f1, xl⟩ := HSP.out.box
    go_wp2_with (fail)
    refine (implParts_any x 59 _ (by omega)).mono ?_
    rintro e w3 ⟨D3, n3, m3, rfl, ho3, hn3, hb⟩
    replace HSP := hide (HSP.out.keep hb)
    have HZ3 := hide (show w2.heap.size + 1 ≤ w3.heap.size by have := hb.size; simpa using this)
    unfold OwnS at ho3
    rw [← hn3] at ho3
    clear hb x0 x1 f0 f1 xl
    obtain ⟨L, hL⟩ : ∃ L, L = parts x 59 := ⟨_, rfl⟩
    rw [← hL] at ho3 hn3
    have HLS := hide (strs_of ho3)
    have hblk := hide (show 0 < n3 → ∀ a, D3 = some a → ¬ (a.block = w2.heap.size ∨ w3.heap.size ≤ a.block) from fun _ a e => by
      have := ho3.lt a.block (by rw [e]; rfl)
      simp at this
      omega)
    have hsz := hide (show ∀ p ∈ L, p.size ≤ 1048576 from fun p hp => by
      rw [hL] at hp
      have := part_le x 59 p hp
      omega)
    have hn3' : n3 ≤ 1048576 := by rw [hn3, hL]; have := parts_len x 59; omega
    have HNL := hide hn3
    rw [← hL] at HK1 HK0
    clear hL ho3 hn3
    go_wp2
    go_loopw [27] (fun i W => ∃ K : Nat, K ≤ n3 ∧ i = .int .i64 K ∧ (∃ A c rr, TState w w.heap.size w2.heap.size W A K c D2 m2 k2 rr ⟨attrsOf (L.take K), parts y 44⟩ ∧ Hid (∀ g, Value.ownBlock (.slice A K c) = some g → w3.heap.size ≤ g)) ∧ Hid (attrsOk (L.take K) = true) ∧ Hid (Only (fun j => j = w2.heap.size ∨ w3.heap.size ≤ j) w3 W)) (fun i _ => n3 - (intOf i).toNat)
    case atStart => exact ⟨0, Nat.zero_le _, rfl, ⟨none, 0, _, HSP.out, fun k e => by cases e⟩, (by show attrsOk [] = true; rfl), Only.refl _ _⟩
    case round =>
      clear HSP
      obtain ⟨K, hk, rfl, ⟨A, c, rr, hS, hown⟩, hok, hon⟩ := hrel
      have HS := hide hS
      clear hS
      have hLS := hide (Strs.only HLS.out hon.out hblk.out)
      by_cases hlt : K < n3
      · obtain ⟨ad, rfl, hadb, hcell⟩ := hLS.out.at_ hlt
        have hkl := hide (show K < L.length by have := HNL.out; omega)
        have hz := hsz.out (L[K]?.getD ByteArray.empty) (by rw [List.getElem?_eq_getElem hkl.out, Option.getD_some]; exact List.getElem_mem hkl.out)
        obtain ⟨p, hp⟩ : ∃ p, p = L[K]?.getD ByteArray.empty := ⟨_, rfl⟩
        rw [← hp] at hcell hz
        have HP := hide hp
        clear hp
        obtain ⟨a, ha⟩ : ∃ a, (attrOf p).getD attrZ = a := ⟨_, rfl⟩
        obtain ⟨ok, ho⟩ : ∃ ok, (attrOf p).isSome = ok := ⟨_, rfl⟩
        have HA := hide ha
        have HO := hide ho
        have HAS := hide (show attrSmall a by rw [← ha]; exact attrZ_small p)
        clear ha ho
        go_wp2_with (fail)
        refine (implAttrOf_read _ hz (HT0.out.keep HS.out.below) HA.out HO.out).mono ?_
        rintro e w5 ⟨D1, n1, m1, E1, n2, c2, rfl, hbag, hb⟩
        have hal := (Below.refl w5.heap.size w5).alloc (Nat.le_refl _) (.cells #[.string a.name, .slice D1 n1 m1, .slice E1 n2 c2] 64)
        have HS6 := hide ((HS.out.keep hb).keep hal)
        have HB6 := hide (hbag.below hal)
        have HWZ := hide (show wr.heap.size ≤ (w5.alloc (.cells #[.string a.name, .slice D1 n1 m1, .slice E1 n2 c2] 64)).heap.size from (bthen hb hal).size)
        replace hon := hide (hon.out.trans (Only.of_below (bthen hb hal)))
        clear hb hbag hal
        cases ok
        · have HF := hide (HK0.out (attrsOk_no hkl.out (by rw [← HP.out]; exact HO.out)))
          obtain ⟨x0, x1, f0, f1, xl⟩ := HS6.out.box
          obtain ⟨r0, r1, h0, h1, rl⟩ := HS6.out.res
          go_wp2
          obtain ⟨-, t2⟩ := HS6.out.fin (.slice none 0 0) (.slice none 0 0)
          exact bodyPost_ret (v := .tuple #[.agg #[.slice none 0 0, .slice none 0 0], .bool false]) (by simp [results, Tryd.results33, go_sem, r0, r1]) rfl (schemaPost_none HF.out t2)
        · have hok2 := hide (attrsOk_snoc hkl.out hok.out (by rw [← HP.out]; exact HO.out))
          have hval := hide (show attrsOf (L.take K) ++ [a] = attrsOf (L.take (K + 1)) by
            have := read_snoc hkl.out (by rw [← HP.out]; exact HO.out)
            rw [← HP.out, HA.out] at this
            exact this)
          have HSZ := hide HS6.out.below.size
          have hnum : K + 1 ≤ 1048576 := by omega
          obtain ⟨x0, x1, f0, f1, xl⟩ := HS6.out.box
          go_wp2_with (at_builtin; go_must (refine wpList_append_at (w5.alloc (.cells #[.string a.name, .slice D1 n1 m1, .slice E1 n2 c2] 64)) rfl _ _ 33 rfl w.heap.size 64 (.agg #[.string ⟨#[]⟩, .slice none 0 0, .slice none 0 0]) 3 64 Tryd.underlying33 infoA rfl (by decide) _ K (rr 0).xs [.string a.name, .slice D1 n1 m1, .slice E1 n2 c2] rfl HS6.out.outer (w5.heap.size + 1) (by simp) _ rfl rfl (by simp [Value.oneCell']) rfl (by unfold maxLen; omega) (by omega) HSZ.out ?_); intro v' w9 hown9 hb9 hn9 hg9; obtain ⟨D9, m9, rfl⟩ := own_shape hown9; obtain ⟨y0, y1, g0, g1, yl⟩ := (HS6.out.turn1 hb9 hg9).2.1)
          obtain ⟨A9, c9, r9, e9, hS9⟩ := TState.attr HS.out HS6.out HB6.out HWZ.out hown9 hb9 hg9 hn9 hnum HAS.out
          injection e9 with e91 _ e92
          subst e91 e92
          have HS9 := hide (show TState w w.heap.size w2.heap.size _ D9 (K + 1) m9 D2 m2 k2 r9 ⟨attrsOf (L.take (K + 1)), parts y 44⟩ from by rw [← hval.out]; exact hS9)
          have hbk := hide (show ∀ k, Value.ownBlock (.slice D9 (K + 1) m9) = some k → w3.heap.size ≤ k from fun k hk => by
            rcases hn9 k hk with q | q
            · exact hown.out k q
            · have := hon.out.size; omega)
          have hon2 := hide ((hon.out.trans (Only.of_grown hg9 fun k hk => .inr (hown.out k hk))).setCell (p := ⟨w2.heap.size, 0, none⟩) (.inl rfl) (.slice D9 (K + 1) m9))
          clear hS9 hown9 hb9 hg9 hn9 x0 x1 f0 f1 xl y0 y1 g0 g1 yl hcell hadb
          go_wp2
          go_roundw
          case rel => exact ⟨K + 1, by omega, by go_num, ⟨D9, m9, r9, HS9.out, hbk⟩, hok2, hon2⟩
          case measure => simp [intOf]; omega
      · obtain rfl : K = n3 := by omega
        have hall := hide (show L.take K = L from List.take_of_length_le (by have := HNL.out; omega))
        have HK := hide (HK1.out (by rw [← hall.out]; exact hok.out))
        obtain ⟨d, hd⟩ : ∃ d : SchemaD, d = ⟨attrsOf L, parts y 44⟩ := ⟨_, rfl⟩
        replace HS := hide (show TState w w.heap.size w2.heap.size wr A K c D2 m2 k2 rr d from by rw [hd]; have := HS.out; rw [hall.out] at this; exact this)
        rw [← hd] at HK
        clear hd
        obtain ⟨x0, x1, f0, f1, xl⟩ := HS.out.box
        go_wp2_with (fail)
        refine (implSchemaOk_any _ _ d _ HS.out.sch.o.m).mono ?_
        rintro e w5 ⟨rfl, hb⟩
        replace HS := hide (HS.out.keep hb)
        clear hb x0 x1 f0 f1 xl
        cases hsb : schemaB d
        · have HF := hide (HK.out.trans (keepS_no hsb))
          clear hsb
          obtain ⟨x0, x1, f0, f1, xl⟩ := HS.out.box
          obtain ⟨r0, r1, h0, h1, rl⟩ := HS.out.res
          go_wp2
          obtain ⟨-, t2⟩ := HS.out.fin (.slice none 0 0) (.slice none 0 0)
          exact bodyPost_ret (v := .tuple #[.agg #[.slice none 0 0, .slice none 0 0], .bool false]) (by simp [results, Tryd.results33, go_sem, r0, r1]) rfl (schemaPost_none HF.out t2)
        · have HF := hide (HK.out.trans (keepS_yes hsb))
          clear hsb
          obtain ⟨x0, x1, f0, f1, xl⟩ := HS.out.box
          obtain ⟨r0, r1, h0, h1, rl⟩ := HS.out.res
          go_wp2
          obtain ⟨t1, t2⟩ := HS.out.fin (.slice A K c) (.slice D2 m2 k2)
          exact bodyPost_ret (v := .tuple #[.agg #[.slice A K c, .slice D2 m2 k2], .bool true]) (by simp [results, Tryd.results33, go_sem, r0, r1]) rfl (schemaPost_some HF.out t1.o t2)
end Go.Proofs.YtohodehmidbmlaaDoor
namespace Go.Proofs.YtohodehmidbmlaaDoor
open Go.RowKit
set_option maxRecDepth 100000

/-- A literal list of strings, of numbers. -/
theorem strs_lit (W : World) (l : List ByteArray) (t : TypeId) : Strs (W.alloc (.cells (l.map Value.string).toArray t)) (some ⟨W.heap.size, 0, none⟩) l.length l := by
  refine ⟨rfl, fun h => ⟨_, rfl, by simp, fun i hi => ⟨[.string l[i]], rfl, rfl, fun j u hu => ?_⟩⟩⟩
  rcases j with _ | j
  · simp only [List.getElem?_cons_zero, Option.some.injEq] at hu
    subst hu
    have e : (⟨W.heap.size, 0, none⟩ : Addr).add (i * 1 + 0) = ⟨W.heap.size, i, none⟩ := by unfold Addr.add; split <;> simp_all
    rw [e, cell_of_row _ W.heap.size i (l.map Value.string).toArray t (0, 0) (heap_alloc_new W _)]
    simp [hi]
  · simp at hu
theorem ints_lit (W : World) (l : List Int) (t : TypeId) : Ints (W.alloc (.cells (l.map (Value.int .i64)).toArray t)) (some ⟨W.heap.size, 0, none⟩) l.length l := by
  refine ⟨rfl, fun h => ⟨_, rfl, by simp, fun i hi => ⟨[.int .i64 l[i]], rfl, rfl, fun j u hu => ?_⟩⟩⟩
  rcases j with _ | j
  · simp only [List.getElem?_cons_zero, Option.some.injEq] at hu
    subst hu
    have e : (⟨W.heap.size, 0, none⟩ : Addr).add (i * 1 + 0) = ⟨W.heap.size, i, none⟩ := by unfold Addr.add; split <;> simp_all
    rw [e, cell_of_row _ W.heap.size i (l.map (Value.int .i64)).toArray t (0, 0) (heap_alloc_new W _)]
    simp [hi]
  · simp at hu
theorem lit_apart {W : World} {b : Nat} (h : Cur W b) : ∀ a, some (⟨W.heap.size, 0, none⟩ : Addr) = some a → a.block ≠ b := by
  intro a e
  obtain ⟨_, _, _, _, _, _, _, _, _, _, _, hlt, _⟩ := h
  obtain rfl := Option.some.inj e
  show W.heap.size ≠ b
  omega

def partsL : List ByteArray := [⟨#[]⟩, ⟨#[97]⟩, ⟨#[97, 44, 98]⟩, ⟨#[44]⟩, ⟨#[97, 44, 44, 98, 44]⟩, ⟨#[97, 47, 98, 44, 99, 47]⟩]
theorem partsL_size : ∀ k, k < 6 → (partsL[k]?.getD ByteArray.empty).size ≤ 6 := by decide

end Go.Proofs.YtohodehmidbmlaaDoor
namespace Go.Proofs.YtohodehmidbmlaaDoor
open Go.RowKit
set_option maxRecDepth 100000

theorem lit_cell (W : World) (l : List Value) (t : TypeId) (k : Nat) {v : Value} (h : l[k]? = some v) : (W.alloc (.cells l.toArray t)).cell? ((⟨W.heap.size, 0, none⟩ : Addr).add k) = some v := by
  have e : (⟨W.heap.size, 0, none⟩ : Addr).add k = ⟨W.heap.size, k, none⟩ := by unfold Addr.add; split <;> simp_all
  rw [e, cell_of_row _ W.heap.size k l.toArray t (0, 0) (heap_alloc_new W _)]
  simpa using h
theorem new_cells {W : World} {g : Nat} (h : W.heap.size = g) (us : List Value) (e : TypeId) : ∀ j v, us[j]? = some v → ∃ a, some (⟨g, 0, none⟩ : Addr) = some a ∧ (W.alloc (.cells us.toArray e)).cell? (a.add j) = some v := by
  subst h
  intro j v hj
  exact ⟨_, rfl, lit_cell W us e j hj⟩
theorem own_lit {B : Nat} {e : TypeId} (w : World) (l : List Value) (hb : B ≤ w.heap.size) (hl : l.length ≤ 100) : (w.alloc (.cells l.toArray e)).ownsRow B e 1 (.slice (some ⟨w.heap.size, 0, none⟩) l.length l.length) l.length l := by
  refine ⟨by simp, .inr ⟨w.heap.size, l.length, l.toArray, rfl, hb, heap_alloc_new w _, Nat.le_refl _, by unfold maxLen; omega, by simp, ?_⟩⟩
  simp
theorem only_set {w : World} {p : Addr} (u : Value) : Only (fun j => p.block = j) w (w.setCell p u) := (Only.refl _ w).setCell rfl _
/-- The result's box r, the attribute's box x, its rows, the cursor b. -/
structure AState (w : World) (b r x : Nat) (W : World) (A1 : Option Addr) (n1 c1 : Nat) (A2 : Option Addr) (n2 c2 : Nat) (a : AttrD) : Prop where
  ord : b < w.heap.size ∧ w.heap.size ≤ r ∧ w.heap.size ≤ x ∧ r ≠ x
  res : BoxA W r (.string ⟨#[]⟩) (.slice none 0 0) (.slice none 0 0)
  box : BoxA W x (.string a.name) (.slice A1 n1 c1) (.slice A2 n2 c2)
  bag : Bag w.heap.size 2 W (attrRows A1 n1 c1 A2 n2 c2 a)
  ap1 : ∀ k, Value.ownBlock (.slice A1 n1 c1) = some k → k ≠ x ∧ k ≠ r
  ap2 : ∀ k, Value.ownBlock (.slice A2 n2 c2) = some k → k ≠ x ∧ k ≠ r
  cur : Cur W b
  only : Only (· = b) w W
section
variable {w W W2 : World} {b r x : Nat} {A1 A2 : Option Addr} {n1 c1 n2 c2 : Nat} {a : AttrD}
theorem AState.draw (h : AState w b r x W A1 n1 c1 A2 n2 c2 a) (hC : Cur W2 b) (ho : Only (· = b) W W2) : AState w b r x W2 A1 n1 c1 A2 n2 c2 a := by
  have ho' := h.ord
  exact ⟨h.ord, h.res.only ho (by omega), h.box.only ho (by omega), h.bag.only ho (fun k hk e => by have := (h.bag.lt hk).1; omega), h.ap1, h.ap2, hC, h.only.trans ho⟩
theorem AState.keep (h : AState w b r x W A1 n1 c1 A2 n2 c2 a) (hb : Below W.heap.size W W2) : AState w b r x W2 A1 n1 c1 A2 n2 c2 a :=
  ⟨h.ord, h.res.keep hb, h.box.keep hb, h.bag.below hb, h.ap1, h.ap2, h.cur.keep hb, h.only.trans (Only.of_below hb)⟩
theorem AState.hasne (h : AState w b r x W A1 n1 c1 A2 n2 c2 a) {k : Nat} (hk : has 2 (attrRows A1 n1 c1 A2 n2 c2 a) k) : k ≠ x ∧ k ≠ r := by
  obtain ⟨i, hi, e⟩ := hk
  rcases (show i = 0 ∨ i = 1 by omega) with rfl | rfl
  · exact h.ap1 k e
  · exact h.ap2 k e
theorem AState.set0 (h : AState w b r x W A1 n1 c1 A2 n2 c2 a) (nm : ByteArray) : AState w b r x (W.setCell ⟨x, 0, none⟩ (.string nm)) A1 n1 c1 A2 n2 c2 ⟨nm, a.cuts, a.vals⟩ := by
  have ho' := h.ord
  have hs := only_set (w := W) (p := ⟨x, 0, none⟩) (.string nm)
  exact ⟨h.ord, h.res.only hs (by show ¬ x = r; omega), h.box.set0 _, h.bag.only hs (fun k hk e => (h.hasne hk).1 (Eq.symm e)), h.ap1, h.ap2,
    Cur.low h.cur h.ord.1 ((Below.refl _ _).setCell (p := ⟨x, 0, none⟩) h.ord.2.2.1 _), h.only.low ((Below.refl _ _).setCell (p := ⟨x, 0, none⟩) h.ord.2.2.1 _)⟩
/-- What stays when the cuts', the values' row is written or laid anew. -/
def AKept (w : World) (b r x : Nat) (w9 : World) (A1 : Option Addr) (n1 c1 : Nat) (A2 : Option Addr) (n2 c2 : Nat) (a : AttrD) : Prop :=
  BoxA w9 r (.string ⟨#[]⟩) (.slice none 0 0) (.slice none 0 0) ∧ BoxA w9 x (.string a.name) (.slice A1 n1 c1) (.slice A2 n2 c2) ∧ Cur w9 b ∧ Only (· = b) w w9
theorem AState.turn1 {w9 : World} (h : AState w b r x W A1 n1 c1 A2 n2 c2 a) (hb : Below w.heap.size W w9) (hg : W.grownBy w9 (Value.ownBlock (.slice A1 n1 c1))) : AKept w b r x w9 A1 n1 c1 A2 n2 c2 a := by
  have hs : Only (fun j => Value.ownBlock (.slice A1 n1 c1) = some j) W w9 := Only.of_grown hg fun k hk => hk
  exact ⟨h.res.only hs (fun e => (h.ap1 _ e).2 rfl), h.box.only hs (fun e => (h.ap1 _ e).1 rfl), Cur.low h.cur h.ord.1 hb, h.only.low hb⟩
theorem AState.turn2 {w9 : World} (h : AState w b r x W A1 n1 c1 A2 n2 c2 a) (hb : Below w.heap.size W w9) (hg : W.grownBy w9 (Value.ownBlock (.slice A2 n2 c2))) : AKept w b r x w9 A1 n1 c1 A2 n2 c2 a := by
  have hs : Only (fun j => Value.ownBlock (.slice A2 n2 c2) = some j) W w9 := Only.of_grown hg fun k hk => hk
  exact ⟨h.res.only hs (fun e => (h.ap2 _ e).2 rfl), h.box.only hs (fun e => (h.ap2 _ e).1 rfl), Cur.low h.cur h.ord.1 hb, h.only.low hb⟩
theorem AState.put1 {w9 : World} {A1' : Option Addr} {n1' c1' : Nat} {l : List Int} (h0 : AState w b r x W A1 n1 c1 A2 n2 c2 a) (h : AKept w b r x w9 A1 n1 c1 A2 n2 c2 a)
    (hB : Bag w.heap.size 2 w9 (attrRows A1' n1' c1' A2 n2 c2 ⟨a.name, l, a.vals⟩)) (hap : ∀ k, Value.ownBlock (.slice A1' n1' c1') = some k → Value.ownBlock (.slice A1 n1 c1) = some k ∨ W.heap.size ≤ k) :
    AState w b r x (w9.setCell ⟨x, 1, none⟩ (.slice A1' n1' c1')) A1' n1' c1' A2 n2 c2 ⟨a.name, l, a.vals⟩ := by
  have ho' := h0.ord
  have hs := only_set (w := w9) (p := ⟨x, 1, none⟩) (.slice A1' n1' c1')
  have hlow : Below w.heap.size w9 (w9.setCell ⟨x, 1, none⟩ (.slice A1' n1' c1')) := (Below.refl _ _).setCell (p := ⟨x, 1, none⟩) ho'.2.2.1 _
  have ha1 : ∀ k, Value.ownBlock (.slice A1' n1' c1') = some k → k ≠ x ∧ k ≠ r := fun k hk => by
    rcases hap k hk with q | q
    · exact h0.ap1 k q
    · have := h0.box.lt; have := h0.res.lt; omega
  have hhas : ∀ k, has 2 (attrRows A1' n1' c1' A2 n2 c2 ⟨a.name, l, a.vals⟩) k → k ≠ x ∧ k ≠ r := by
    rintro k ⟨i, hi, e⟩
    rcases (show i = 0 ∨ i = 1 by omega) with rfl | rfl
    · exact ha1 k e
    · exact h0.ap2 k e
  exact ⟨ho', h.1.only hs (by show ¬ x = r; omega), h.2.1.set1 _, hB.only hs (fun k hk e => (hhas k hk).1 (Eq.symm e)), ha1, h0.ap2, Cur.low h.2.2.1 ho'.1 hlow, h.2.2.2.low hlow⟩
theorem AState.put2 {w9 : World} {A2' : Option Addr} {n2' c2' : Nat} {l : List ByteArray} (h0 : AState w b r x W A1 n1 c1 A2 n2 c2 a) (h : AKept w b r x w9 A1 n1 c1 A2 n2 c2 a)
    (hB : Bag w.heap.size 2 w9 (attrRows A1 n1 c1 A2' n2' c2' ⟨a.name, a.cuts, l⟩)) (hap : ∀ k, Value.ownBlock (.slice A2' n2' c2') = some k → Value.ownBlock (.slice A2 n2 c2) = some k ∨ W.heap.size ≤ k) :
    AState w b r x (w9.setCell ⟨x, 2, none⟩ (.slice A2' n2' c2')) A1 n1 c1 A2' n2' c2' ⟨a.name, a.cuts, l⟩ := by
  have ho' := h0.ord
  have hs := only_set (w := w9) (p := ⟨x, 2, none⟩) (.slice A2' n2' c2')
  have hlow : Below w.heap.size w9 (w9.setCell ⟨x, 2, none⟩ (.slice A2' n2' c2')) := (Below.refl _ _).setCell (p := ⟨x, 2, none⟩) ho'.2.2.1 _
  have ha2 : ∀ k, Value.ownBlock (.slice A2' n2' c2') = some k → k ≠ x ∧ k ≠ r := fun k hk => by
    rcases hap k hk with q | q
    · exact h0.ap2 k q
    · have := h0.box.lt; have := h0.res.lt; omega
  have hhas : ∀ k, has 2 (attrRows A1 n1 c1 A2' n2' c2' ⟨a.name, a.cuts, l⟩) k → k ≠ x ∧ k ≠ r := by
    rintro k ⟨i, hi, e⟩
    rcases (show i = 0 ∨ i = 1 by omega) with rfl | rfl
    · exact h0.ap1 k e
    · exact ha2 k e
  exact ⟨ho', h.1.only hs (by show ¬ x = r; omega), h.2.1.set2 _, hB.only hs (fun k hk e => (hhas k hk).1 (Eq.symm e)), h0.ap1, ha2, Cur.low h.2.2.1 ho'.1 hlow, h.2.2.2.low hlow⟩
/-- One cut more, one value more. -/
theorem AState.cut {w9 : World} {v : Value} {u : Int} (h : AState w b r x W A1 n1 c1 A2 n2 c2 a) (hv : w9.ownsRow w.heap.size 3 1 v (n1 + 1) (a.cuts.map (Value.int .i64) ++ [.int .i64 u])) (hb : Below w.heap.size W w9)
    (hg : W.grownBy w9 (Value.ownBlock (.slice A1 n1 c1))) (hnew : ∀ g, v.ownBlock = some g → Value.ownBlock (.slice A1 n1 c1) = some g ∨ W.heap.size ≤ g) :
    ∃ A1' c1', v = .slice A1' (n1 + 1) c1' ∧ AState w b r x (w9.setCell ⟨x, 1, none⟩ v) A1' (n1 + 1) c1' A2 n2 c2 ⟨a.name, a.cuts ++ [u], a.vals⟩ := by
  obtain ⟨A', c', rfl, hB⟩ := attr_cut h.bag hv hg hnew
  exact ⟨A', c', rfl, AState.put1 h (h.turn1 hb hg) hB hnew⟩
theorem AState.val {w9 : World} {v : Value} {u : ByteArray} (h : AState w b r x W A1 n1 c1 A2 n2 c2 a) (hv : w9.ownsRow w.heap.size 9 1 v (n2 + 1) (a.vals.map Value.string ++ [.string u])) (hb : Below w.heap.size W w9)
    (hg : W.grownBy w9 (Value.ownBlock (.slice A2 n2 c2))) (hnew : ∀ g, v.ownBlock = some g → Value.ownBlock (.slice A2 n2 c2) = some g ∨ W.heap.size ≤ g) :
    ∃ A2' c2', v = .slice A2' (n2 + 1) c2' ∧ AState w b r x (w9.setCell ⟨x, 2, none⟩ v) A1 n1 c1 A2' (n2 + 1) c2' ⟨a.name, a.cuts, a.vals ++ [u]⟩ := by
  obtain ⟨A', c', rfl, hB⟩ := attr_val h.bag hv hg hnew
  exact ⟨A', c', rfl, AState.put2 h (h.turn2 hb hg) hB hnew⟩
/-- Cuts, values from a literal. -/
theorem AState.cuts_lit (h : AState w b r x W A1 n1 c1 A2 n2 c2 a) (l : List Int) (hl : l.length ≤ 100) :
    AState w b r x ((W.alloc (.cells (l.map (Value.int .i64)).toArray 3)).setCell ⟨x, 1, none⟩ (.slice (some ⟨W.heap.size, 0, none⟩) l.length l.length)) (some ⟨W.heap.size, 0, none⟩) l.length l.length A2 n2 c2 ⟨a.name, l, a.vals⟩ := by
  have hal : Below W.heap.size W (W.alloc (.cells (l.map (Value.int .i64)).toArray 3)) := (Below.refl _ _).alloc (Nat.le_refl _) _
  have hk := h.keep hal
  have ho := own_lit (B := W.heap.size) (e := 3) W (l.map (Value.int .i64)) (Nat.le_refl _) (by simpa using hl)
  simp only [List.length_map] at ho
  exact AState.put1 h ⟨hk.res, hk.box, hk.cur, hk.only⟩ (attr_cuts_set h.bag hal h.only.size (Nat.le_refl _) ho a.name) (fun k hk => .inr (ho.lt k hk).1)
theorem AState.vals_lit (h : AState w b r x W A1 n1 c1 A2 n2 c2 a) (l : List ByteArray) (hl : l.length ≤ 100) :
    AState w b r x ((W.alloc (.cells (l.map Value.string).toArray 9)).setCell ⟨x, 2, none⟩ (.slice (some ⟨W.heap.size, 0, none⟩) l.length l.length)) A1 n1 c1 (some ⟨W.heap.size, 0, none⟩) l.length l.length ⟨a.name, a.cuts, l⟩ := by
  have hal : Below W.heap.size W (W.alloc (.cells (l.map Value.string).toArray 9)) := (Below.refl _ _).alloc (Nat.le_refl _) _
  have hk := h.keep hal
  have ho := own_lit (B := W.heap.size) (e := 9) W (l.map Value.string) (Nat.le_refl _) (by simpa using hl)
  simp only [List.length_map] at ho
  exact AState.put2 h ⟨hk.res, hk.box, hk.cur, hk.only⟩ (attr_vals_set h.bag hal h.only.size (Nat.le_refl _) ho a.name) (fun k hk => .inr (ho.lt k hk).1)
theorem AState.vals_lit' {g : Nat} (h : AState w b r x W A1 n1 c1 A2 n2 c2 a) (hg : W.heap.size = g) (l : List ByteArray) (hl : l.length ≤ 100) :
    AState w b r x ((W.alloc (.cells (l.map Value.string).toArray 9)).setCell ⟨x, 2, none⟩ (.slice (some ⟨g, 0, none⟩) l.length l.length)) A1 n1 c1 (some ⟨g, 0, none⟩) l.length l.length ⟨a.name, a.cuts, l⟩ := by
  subst hg
  exact h.vals_lit l hl
/-- The result written. -/
theorem AState.fin (h : AState w b r x W A1 n1 c1 A2 n2 c2 a) (u0 u1 u2 : Value) : Bag w.heap.size 2 (((W.setCell ⟨r, 0, none⟩ u0).setCell ⟨r, 1, none⟩ u1).setCell ⟨r, 2, none⟩ u2) (attrRows A1 n1 c1 A2 n2 c2 a) ∧
    Cur (((W.setCell ⟨r, 0, none⟩ u0).setCell ⟨r, 1, none⟩ u1).setCell ⟨r, 2, none⟩ u2) b ∧ Only (· = b) w (((W.setCell ⟨r, 0, none⟩ u0).setCell ⟨r, 1, none⟩ u1).setCell ⟨r, 2, none⟩ u2) := by
  have hs : Only (fun j => r = j) W (((W.setCell ⟨r, 0, none⟩ u0).setCell ⟨r, 1, none⟩ u1).setCell ⟨r, 2, none⟩ u2) :=
    (((Only.refl _ W).setCell (p := ⟨r, 0, none⟩) rfl _).setCell (p := ⟨r, 1, none⟩) rfl _).setCell (p := ⟨r, 2, none⟩) rfl _
  have hlow : Below w.heap.size W (((W.setCell ⟨r, 0, none⟩ u0).setCell ⟨r, 1, none⟩ u1).setCell ⟨r, 2, none⟩ u2) :=
    (((Below.refl _ _).setCell (p := ⟨r, 0, none⟩) h.ord.2.1 _).setCell (p := ⟨r, 1, none⟩) h.ord.2.1 _).setCell (p := ⟨r, 2, none⟩) h.ord.2.1 _
  exact ⟨h.bag.only hs (fun k hk e => (h.hasne hk).2 (Eq.symm e)), Cur.low h.cur h.ord.1 hlow, h.only.low hlow⟩
theorem AState.lens (h : AState w b r x W A1 n1 c1 A2 n2 c2 a) : n1 = a.cuts.length ∧ n2 = a.vals.length := ⟨(ints_of (attr_own1 h.bag)).1, (strs_of (attr_own2 h.bag)).1⟩
end
end Go.Proofs.YtohodehmidbmlaaDoor
namespace Go.Proofs.YtohodehmidbmlaaDoor
open Go.RowKit
set_option maxRecDepth 100000

def namesL : List ByteArray := [⟨#[97, 103, 101]⟩, ⟨#[115, 105, 122, 101]⟩, ⟨#[99, 111, 108, 111, 117, 114]⟩, ⟨#[107]⟩, ⟨#[108, 111, 110, 103, 110, 97, 109, 101]⟩]
def valsL : List ByteArray := [⟨#[114, 101, 100]⟩, ⟨#[98, 108, 117, 101]⟩, ⟨#[120]⟩, ⟨#[103, 114, 101, 101, 110]⟩]
def badNames : List ByteArray := [⟨#[]⟩, ⟨#[85, 112, 112, 101, 114]⟩, ⟨#[119, 97, 121, 116, 111, 111, 108, 111, 110, 103]⟩, ⟨#[97, 32, 98]⟩]
def badVals : List ByteArray := [⟨#[114, 101, 100]⟩, ⟨#[102, 105, 102, 116, 104]⟩, ⟨#[]⟩]
theorem namesL_size : ∀ k, k < 5 → (namesL[k]?.getD ByteArray.empty).size ≤ 16 := by decide
theorem valsL_size : ∀ k, k < 4 → (valsL[k]?.getD ByteArray.empty).size ≤ 16 := by decide
theorem badNames_size : ∀ k, k < 4 → (badNames[k]?.getD ByteArray.empty).size ≤ 16 := by decide
theorem badVals_size : ∀ k, k < 3 → (badVals[k]?.getD ByteArray.empty).size ≤ 16 := by decide
/-- A tiny attribute. -/
def attrTiny (a : AttrD) : Prop := a.name.size ≤ 16 ∧ (∀ s ∈ a.vals, s.size ≤ 16) ∧ a.cuts.length ≤ 8 ∧ a.vals.length ≤ 8
theorem attrTiny.small {a : AttrD} (h : attrTiny a) : attrSmall a := ⟨by have := h.1; omega, fun s hs => by have := h.2.1 s hs; omega, by have := h.2.2.1; omega, by have := h.2.2.2; omega⟩
theorem one_more {l : List ByteArray} {u : ByteArray} (h : ∀ s ∈ l, s.size ≤ 16) (hu : u.size ≤ 16) : ∀ s ∈ l ++ [u], s.size ≤ 16 := by
  intro s hs
  rcases List.mem_append.1 hs with hs | hs
  · exact h s hs
  · rw [List.mem_singleton.1 hs]; exact hu

set_option maxHeartbeats 8000000 in
theorem l5RightAttr_any (b i : Nat) (w : World) (h : Cur w b) (hi : i < 5) :
    Calls Tryd.prog 150 #[.pointer (some ⟨b, 0, none⟩), .int .i64 i] w fun e w' => ∃ a D1 n1 m1 D2 n2 m2, e = .returned (.agg #[.string a.name, .slice D1 n1 m1, .slice D2 n2 m2]) ∧
      Bag w.heap.size 2 w' (attrRows D1 n1 m1 D2 n2 m2 a) ∧ a.name.size ≤ 16 ∧ (∀ s ∈ a.vals, s.size ≤ 16) ∧ n1 ≤ 3 ∧ n2 ≤ 4 ∧ (∀ k, has 2 (attrRows D1 n1 m1 D2 n2 m2 a) k → w.heap.size < k) ∧ Cur w' b ∧ Only (· = b) w w' := by
  have HC := hide h
  have hbw := h.lt
  clear h
  have hrem : (i : Int) % 5 = i := by omega
  obtain ⟨nm, hnm, hsz⟩ : ∃ nm, (namesL.map Value.string)[i]? = some (.string nm) ∧ nm.size ≤ 16 := ⟨namesL[i]?.getD ByteArray.empty, by
    rw [List.getElem?_map, List.getElem?_eq_getElem (show i < namesL.length from hi)]; rfl, namesL_size i hi⟩
  obtain ⟨W0, hW0⟩ : ∃ W, W = w.alloc (.cells #[.string ⟨#[]⟩, .slice none 0 0, .slice none 0 0] 64) := ⟨_, rfl⟩
  have hld : ∀ h : i < (namesL.map Value.string).length, (namesL.map Value.string)[i]'h = .string nm := fun h => by rw [List.getElem?_eq_getElem h] at hnm; exact Option.some.inj hnm
  have HZ0 := hide (show W0.heap.size = w.heap.size + 1 by rw [hW0]; simp)
  have hR0 := BoxA.new w (.string ⟨#[]⟩) (.slice none 0 0) (.slice none 0 0) 64
  rw [← hW0] at hR0
  have hal0 : Below w.heap.size w W0 := by rw [hW0]; exact (Below.refl _ _).alloc (Nat.le_refl _) _
  have hal1 : Below W0.heap.size W0 ((W0.alloc (.cells (namesL.map Value.string).toArray 9)).alloc (.cells #[.string nm, .slice none 0 0, .slice none 0 0] 64)) := ((Below.refl _ _).alloc (Nat.le_refl _) _).alloc (by simp) _
  have hX := BoxA.new (W0.alloc (.cells (namesL.map Value.string).toArray 9)) (.string nm) (.slice none 0 0) (.slice none 0 0) 64
  obtain ⟨W1, hW1⟩ : ∃ W, W = (W0.alloc (.cells (namesL.map Value.string).toArray 9)).alloc (.cells #[.string nm, .slice none 0 0, .slice none 0 0] 64) := ⟨_, rfl⟩
  have hz1 : (W0.alloc (.cells (namesL.map Value.string).toArray 9)).heap.size = w.heap.size + 1 + 1 := by simp [HZ0.out]
  rw [hz1, ← hW1] at hX
  rw [← hW1] at hal1
  have hR := hR0.keep hal1
  have HW0 := hide hW0
  have HW1 := hide hW1
  clear hW0 hW1 hz1 hR0
  go_enter Tryd.func150, Tryd.ntmps150
  simp only [namesL, List.map_cons, List.map_nil] at hld
  have hW1' := HW1.out
  rw [HW0.out] at hW1'
  simp only [namesL, List.map_cons, List.map_nil] at hW1'
  have HW := hide hW1'
  have hal : Below w.heap.size w W1 := bthen hal0 hal1
  have HS := hide (show AState w b w.heap.size (w.heap.size + 1 + 1) W1 none 0 0 none 0 0 ⟨nm, [], []⟩ from
    ⟨by omega, hR, hX, attr_start _ _ _, (fun k e => by cases e), (fun k e => by cases e), HC.out.keep hal, Only.of_below hal⟩)
  clear hnm hW1' HW0 HW1 hal0 hal1 HZ0 hX hR hal HC
  go_wp2_with (fail)
  rw [← HW.out]
  refine (l1Once_any b 2 _ HS.out.cur (by omega)).mono ?_
  rintro e w2 ⟨x, rfl, hC2, ho2⟩
  replace HS := hide (HS.out.draw hC2 ho2)
  clear ho2 hC2 HW hld hrem
  cases x
  · go_wp2_with (fail)
    refine (l1Below_any b 3 _ HS.out.cur (by omega)).mono ?_
    rintro e w3 ⟨x, rfl, hx0, hx1, -, hC3, ho3⟩
    replace HS := hide (HS.out.draw hC3 ho3)
    clear hC3 ho3
    obtain ⟨N, hN, hN4⟩ : ∃ N : Nat, 2 + x = N ∧ N ≤ 4 := ⟨(2 + x).toNat, by omega, by have := hx1 (by omega); omega⟩
    clear hx0 hx1
    go_wp2
    go_loopw [10] (fun j W => ∃ K : Nat, K ≤ N ∧ j = .int .i64 K ∧ (∃ A2 c2 l, AState w b w.heap.size (w.heap.size + 1 + 1) W none 0 0 A2 K c2 ⟨nm, [], l⟩ ∧ Hid (∀ s ∈ l, s.size ≤ 16))) (fun j _ => N - (intOf j).toNat)
    case atStart => exact ⟨0, Nat.zero_le _, rfl, ⟨none, 0, [], HS.out, fun s hs => by cases hs⟩⟩
    case round =>
      clear HS
      obtain ⟨K, hk, rfl, ⟨A2, c2, l, hS, hl⟩⟩ := hrel
      have HS := hide hS
      clear hS
      by_cases hlt : K < N
      · obtain ⟨u, hu, hus⟩ : ∃ u, (valsL.map Value.string)[K]? = some (.string u) ∧ u.size ≤ 16 := ⟨valsL[K]?.getD ByteArray.empty, by
          rw [List.getElem?_map, List.getElem?_eq_getElem (show K < valsL.length by show K < 4; omega)]; rfl, valsL_size K (by omega)⟩
        simp only [valsL, List.map_cons, List.map_nil] at hu
        obtain ⟨x0, x1, x2, f0, f1, f2, xl⟩ := HS.out.box
        have hZ3 : w.heap.size < wr.heap.size := HS.out.res.lt
        have HSZ := hide (Nat.le_of_lt hZ3)
        have hK4 : (K : Int) < 4 := by omega
        have xl2 : w.heap.size + 1 < wr.heap.size := by omega
        have hal : ∀ o1 o2, Below wr.heap.size wr ((wr.alloc o1).alloc o2).drew := fun o1 o2 => (((Below.refl _ _).alloc (Nat.le_refl _) o1).alloc (by simp) o2).drew
        have HAL := hide hal
        have HUS := hide hus
        clear hus hal
        go_wp2
        go_region_law (refine step_append_src _ rfl (.tmp 51) (.tmp 56) 23 rfl w.heap.size 9 (.string ⟨#[]⟩) 1 16 Tryd.underlying23 infoS rfl (by decide) (.slice A2 K c2) K (l.map Value.string) [.string u] rfl (((attr_own2 HS.out.bag).alloc _).alloc _) _ 1 1 rfl rfl (new_cells (by simp) _ _) (by simp [Value.oneCell']) (by unfold maxLen; omega) (by omega) (by have := HSZ.out; simp; omega) ?_; intro v' w9 hown9 hb9 hg9 hn9; obtain ⟨D9, m9, rfl⟩ := own_shape hown9; obtain ⟨y0, y1, y2, g0, g1, g2, yl⟩ := ((HS.out.keep (HAL.out _ _)).turn2 hb9 hg9).2.1)
        all_goals
          obtain ⟨A9, c9, e9, hS9⟩ := (HS.out.keep (HAL.out _ _)).val hown9 hb9 hg9 hn9
          injection e9 with e91 _ e92
          subst e91 e92
          have HS9 := hide hS9
          have HLL := hide (one_more hl.out HUS.out)
          clear hS9 hown9 hb9 hg9 hn9 x0 x1 x2 f0 f1 f2 xl xl2 hZ3 y0 y1 y2 g0 g1 g2 yl
          go_wp2
          exact ⟨⟨K + 1, by omega, by go_num, ⟨D9, m9, _, HS9.out, HLL⟩⟩, by simp [intOf]; omega⟩
      · obtain rfl : N = K := by omega
        obtain ⟨x0, x1, x2, f0, f1, f2, xl⟩ := HS.out.box
        obtain ⟨r0, r1, r2, g0, g1, g2, rl⟩ := HS.out.res
        go_wp2
        obtain ⟨t1, t2, t3⟩ := HS.out.fin (.string nm) (.slice none 0 0) (.slice A2 N c2)
        exact bodyPost_ret (v := .agg #[.string nm, .slice none 0 0, .slice A2 N c2]) (by simp [results, Tryd.results150, go_sem, r0, r1, r2]) rfl
          ⟨⟨nm, [], l⟩, none, 0, 0, A2, N, c2, rfl, t1, hsz, hl.out, by omega, by omega, (fun k hk => by have := (t1.lt hk).1; have := (HS.out.hasne hk).2; omega), t2, t3⟩
  · go_wp2_with (fail)
    refine (l1Below_any b 3 _ HS.out.cur (by omega)).mono ?_
    rintro e w3 ⟨x, rfl, hx0, hx1, -, hC3, ho3⟩
    replace HS := hide (HS.out.draw hC3 ho3)
    clear hC3 ho3
    obtain ⟨N, hN, hN4⟩ : ∃ N : Nat, 1 + x = N ∧ N ≤ 3 := ⟨(1 + x).toNat, by omega, by have := hx1 (by omega); omega⟩
    clear hx0 hx1
    go_wp2_with (fail)
    refine (l1PickInt_any b (some ⟨w3.heap.size, 0, none⟩) 5 5 [-9999, -7, 0, 3, 20] _ (HS.out.cur.keep ((Below.refl _ _).alloc (Nat.le_refl _) _)) (ints_lit w3 [-9999, -7, 0, 3, 20] _) (fun _ => lit_apart HS.out.cur) (by omega) (by omega)).mono ?_
    rintro e w4 ⟨k, hk, rfl, hC3, ho3⟩
    have hbA : Below w3.heap.size w3 (w3.alloc (.cells (([-9999, -7, 0, 3, 20] : List Int).map (Value.int .i64)).toArray 3)) := (Below.refl _ _).alloc (Nat.le_refl _) _
    replace HS := hide ((HS.out.keep hbA).draw hC3 ho3)
    clear hC3 ho3 hbA
    obtain ⟨t, ht, ht0, ht1⟩ : ∃ t, ([-9999, -7, 0, 3, 20] : List Int)[k]?.getD 0 = t ∧ -9999 ≤ t ∧ t ≤ 20 :=
      ⟨_, rfl, (show ∀ k, k < 5 → -9999 ≤ ([-9999, -7, 0, 3, 20] : List Int)[k]?.getD 0 by decide) k hk, (show ∀ k, k < 5 → ([-9999, -7, 0, 3, 20] : List Int)[k]?.getD 0 ≤ 20 by decide) k hk⟩
    rw [ht]
    clear ht hk
    go_wp2
    go_loopw [7, 8] (fun v j W => ∃ (K : Nat) (u : Int), K ≤ N ∧ v = .int .i64 u ∧ -9999 ≤ u ∧ u ≤ 20 + 6 * K ∧ j = .int .i64 K ∧ (∃ A1 c1 l, AState w b w.heap.size (w.heap.size + 1 + 1) W A1 K c1 none 0 0 ⟨nm, l, []⟩)) (fun _ j _ => N - (intOf j).toNat)
    case atStart => exact ⟨0, t, Nat.zero_le _, rfl, ht0, by omega, rfl, ⟨none, 0, [], HS.out⟩⟩
    case round =>
      clear HS ht0 ht1
      obtain ⟨K, u, hk, rfl, hu0, hu1, rfl, ⟨A1, c1, l, hS⟩⟩ := hrel
      have HS := hide hS
      clear hS
      by_cases hlt : K < N
      · obtain ⟨x0, x1, x2, f0, f1, f2, xl⟩ := HS.out.box
        have HSZ := hide HS.out.only.size
        go_wp2_with (at_builtin; go_must (refine wpList_append_one wr rfl _ _ 28 rfl w.heap.size 3 (.int .i64 0) 1 8 Tryd.underlying28 infoI rfl (by decide) _ K _ [.int .i64 u] rfl (attr_own1 HS.out.bag) _ rfl rfl (by simp [Value.oneCell']) rfl (by unfold maxLen; omega) (by omega) HSZ.out ?_); intro v' w9 hown9 hb9 hn9 hg9; obtain ⟨D9, m9, rfl⟩ := own_shape hown9; obtain ⟨y0, y1, y2, g0, g1, g2, yl⟩ := (HS.out.turn1 hb9 hg9).2.1)
        obtain ⟨A9, c9, e9, hS9⟩ := HS.out.cut hown9 hb9 hg9 hn9
        injection e9 with e91 _ e92
        subst e91 e92
        have HS9 := hide hS9
        clear hS9 hown9 hb9 hg9 hn9 x0 x1 x2 f0 f1 f2 xl y0 y1 y2 g0 g1 g2 yl
        refine (l1Below_any b 6 _ HS9.out.cur (by omega)).mono ?_
        rintro e w10 ⟨y, rfl, hy0, hy1, -, hC3, ho3⟩
        replace HS9 := hide (HS9.out.draw hC3 ho3)
        have hy2 := hy1 (by omega)
        clear hC3 ho3 hy1
        go_wp2
        go_roundw
        case rel => exact ⟨K + 1, u + 1 + y, by omega, by go_num, by omega, by omega, by go_num, ⟨D9, m9, _, HS9.out⟩⟩
        case measure => simp [intOf]; omega
      · obtain rfl : N = K := by omega
        obtain ⟨x0, x1, x2, f0, f1, f2, xl⟩ := HS.out.box
        obtain ⟨r0, r1, r2, g0, g1, g2, rl⟩ := HS.out.res
        go_wp2
        obtain ⟨t1, t2, t3⟩ := HS.out.fin (.string nm) (.slice A1 N c1) (.slice none 0 0)
        exact bodyPost_ret (v := .agg #[.string nm, .slice A1 N c1, .slice none 0 0]) (by simp [results, Tryd.results150, go_sem, r0, r1, r2]) rfl
          ⟨⟨nm, l, []⟩, A1, N, c1, none, 0, 0, rfl, t1, hsz, (by simp), by omega, by omega, (fun k hk => by have := (t1.lt hk).1; have := (HS.out.hasne hk).2; omega), t2, t3⟩

end Go.Proofs.YtohodehmidbmlaaDoor
namespace Go.Proofs.YtohodehmidbmlaaDoor
open Go.RowKit
set_option maxRecDepth 100000
set_option linter.unusedSimpArgs false


set_option maxHeartbeats 2000000 in
theorem l5DrawAttr_any (b : Nat) (w : World) (h : Cur w b) :
    Calls Tryd.prog 135 #[.pointer (some ⟨b, 0, none⟩)] w fun e w' => ∃ a D1 n1 m1 D2 n2 m2, e = .returned (.agg #[.string a.name, .slice D1 n1 m1, .slice D2 n2 m2]) ∧
      Bag w.heap.size 2 w' (attrRows D1 n1 m1 D2 n2 m2 a) ∧ attrTiny a ∧ Cur w' b ∧ Only (· = b) w w' := by
  have hbw := h.lt
  have hR := BoxA.new w (.string ⟨#[]⟩) (.slice none 0 0) (.slice none 0 0) 64
  have hal : Below w.heap.size w (w.alloc (.cells #[.string ⟨#[]⟩, .slice none 0 0, .slice none 0 0] 64)) := (Below.refl _ _).alloc (Nat.le_refl _) _
  have HC := hide (h.keep hal)
  clear h
  obtain ⟨W0, hW0⟩ : ∃ W, W = w.alloc (.cells #[.string ⟨#[]⟩, .slice none 0 0, .slice none 0 0] 64) := ⟨_, rfl⟩
  have HZ0 := hide (show W0.heap.size = w.heap.size + 1 by rw [hW0]; simp)
  rw [← hW0] at hR hal HC
  have HW := hide hW0
  clear hW0
  go_enter Tryd.func135, Tryd.ntmps135
  go_wp2_with (fail)
  rw [← HW.out]
  refine (l1Below_any b 5 _ HC.out (by omega)).mono ?_
  rintro e w2 ⟨x, rfl, hx0, hx1, -, hC2, ho2⟩
  have hR2 := hR.only ho2 (by omega)
  have hO2 := hide ((Only.of_below (S := (· = b)) hal).trans ho2)
  have hsz2 := hide (show w.heap.size + 1 ≤ w2.heap.size by rw [← HZ0.out]; exact ho2.size)
  have HC2 := hide hC2
  obtain ⟨i, rfl, hi⟩ : ∃ i : Nat, x = i ∧ i < 5 := ⟨x.toNat, by omega, by have := hx1 (by omega); omega⟩
  clear hR hal HC HZ0 HW ho2 hC2 hx0 hx1
  go_wp2_with (fail)
  refine (l5RightAttr_any b i _ HC2.out hi).mono ?_
  rintro e w3 ⟨a, D1, n1, m1, D2, n2, m2, rfl, hbag, hnm, hvs, hn1, hn2, -, hC3, ho3⟩
  have hz3 : w.heap.size + 1 ≤ w3.heap.size := Nat.le_trans hsz2.out ho3.size
  have hz2 := hsz2.out
  obtain ⟨W1, hW1⟩ : ∃ W, W = w3.alloc (.cells #[.string a.name, .slice D1 n1 m1, .slice D2 n2 m2] 64) := ⟨_, rfl⟩
  have hal1 : Below w3.heap.size w3 W1 := by rw [hW1]; exact (Below.refl _ _).alloc (Nat.le_refl _) _
  have hX := BoxA.new w3 (.string a.name) (.slice D1 n1 m1) (.slice D2 n2 m2) 64
  rw [← hW1] at hX
  have HS := hide (show AState w b w.heap.size w3.heap.size W1 D1 n1 m1 D2 n2 m2 a from
    ⟨by omega, (hR2.only ho3 (by omega)).keep hal1, hX, (hbag.mono (by omega)).below hal1,
      fun k e => by have := hbag.lt (k := k) ⟨0, by omega, e⟩; omega, fun k e => by have := hbag.lt (k := k) ⟨1, by omega, e⟩; omega, hC3.keep hal1, (hO2.out.trans ho3).trans (Only.of_below hal1)⟩)
  have HW1 := hide hW1
  have HL := hide HS.out.lens
  have HT := hide (show attrTiny a from ⟨hnm, hvs, by have := HL.out.1; omega, by have := HL.out.2; omega⟩)
  have hrx : w.heap.size < w3.heap.size := by omega
  clear hbag hnm hvs hC3 ho3 hal1 hX hW1 hR2 hO2 hsz2 HC2 hz2 hz3
  go_wp2_with (fail)
  rw [← HW1.out]
  clear HW1
  refine (l1Below_any b 14 _ HS.out.cur (by omega)).mono ?_
  rintro e w4 ⟨x, rfl, hx0, hx1, -, hC3, ho3⟩
  replace HS := hide (HS.out.draw hC3 ho3)
  clear hC3 ho3 hx1
  rcases (show x = 0 ∨ x = 1 ∨ x = 2 ∨ x = 3 ∨ x = 4 ∨ 5 ≤ x by omega) with rfl | rfl | rfl | rfl | rfl | hx5
  · go_wp2_with (fail)
    refine (l1Pick_any b (some ⟨w4.heap.size, 0, none⟩) 4 4 badNames _ (HS.out.cur.keep ((Below.refl _ _).alloc (Nat.le_refl _) _)) (strs_lit w4 badNames _) (fun _ => lit_apart HS.out.cur) (by omega) (by omega)).mono ?_
    rintro e w5 ⟨k, hk, rfl, hC3, ho3⟩
    have hbA : Below w4.heap.size w4 (w4.alloc (.cells (badNames.map Value.string).toArray 9)) := (Below.refl _ _).alloc (Nat.le_refl _) _
    replace HS := hide ((HS.out.keep hbA).draw hC3 ho3)
    obtain ⟨s, hs, hs16⟩ : ∃ s, badNames[k]?.getD ByteArray.empty = s ∧ s.size ≤ 16 := ⟨_, rfl, badNames_size k hk⟩
    rw [hs]
    clear hC3 ho3 hbA hs hk
    obtain ⟨x0, x1, x2, f0, f1, f2, xl⟩ := HS.out.box
    obtain ⟨r0, r1, r2, h0, h1, h2, rl⟩ := HS.out.res
    have HSZ := hide HS.out.only.size
    go_wp2
    obtain ⟨t1, t2, t3⟩ := (HS.out.set0 s).fin (.string s) (.slice D1 n1 m1) (.slice D2 n2 m2)
    exact bodyPost_ret (v := .agg #[.string s, .slice D1 n1 m1, .slice D2 n2 m2]) (by simp [results, Tryd.results135, go_sem, r0, r1, r2, rl, xl, hrx]) rfl
      ⟨⟨s, a.cuts, a.vals⟩, _, _, _, _, _, _, rfl, t1, ⟨hs16, HT.out.2⟩, t2, t3⟩
  · obtain ⟨x0, x1, x2, f0, f1, f2, xl⟩ := HS.out.box
    have HSZ := hide HS.out.only.size
    have hal := hide (fun o1 => (((Below.refl w4.heap.size w4).alloc (Nat.le_refl _) o1).drew : Below w4.heap.size w4 (w4.alloc o1).drew))
    go_wp2
    go_region_law (first
      | (go_simp; go_at_call 120; refine (l1PickInt_any b (some ⟨w4.heap.size, 0, none⟩) 4 4 [-10000, 9999, 9998, 0] _ (HS.out.cur.keep (hal.out _)) (ints_lit w4 [-10000, 9999, 9998, 0] _) (fun _ => lit_apart HS.out.cur) (by omega) (by omega)).mono ?_; rintro e w5 ⟨k, hk, rfl, hC3, ho3⟩; obtain ⟨u, hu⟩ : ∃ u, ([-10000, 9999, 9998, 0] : List Int)[k]?.getD 0 = u := ⟨_, rfl⟩; rw [hu]; have HS5 := hide ((HS.out.keep (hal.out _)).draw hC3 ho3); obtain ⟨y0, y1, y2, g0, g1, g2, yl⟩ := HS5.out.box; have HSZ5 := hide HS5.out.only.size; clear hC3 ho3 hu hk)
      | (refine step_append_src _ rfl (.tmp 19) (.tmp 23) 28 rfl w.heap.size 3 (.int .i64 0) 1 8 Tryd.underlying28 infoI rfl (by decide) (.slice D1 n1 m1) n1 (a.cuts.map (Value.int .i64)) [.int .i64 u] rfl ((attr_own1 HS5.out.bag).alloc _) _ 1 1 rfl rfl (new_cells rfl _ _) (by simp [Value.oneCell']) (by unfold maxLen; omega) (by omega) (by have := HSZ5.out; simp; omega) ?_; intro v' w9 hown9 hb9 hg9 hn9; obtain ⟨D9, m9, rfl⟩ := own_shape hown9; obtain ⟨z0, z1, z2, i0, i1, i2, zl⟩ := ((HS5.out.keep ((Below.refl _ _).alloc (Nat.le_refl _) _)).turn1 hb9 hg9).2.1))
    all_goals
      obtain ⟨A9, c9, e9, hS9⟩ := (HS5.out.keep ((Below.refl _ _).alloc (Nat.le_refl _) _)).cut hown9 hb9 hg9 hn9
      injection e9 with e91 _ e92
      subst e91 e92
      have HS9 := hide hS9
      clear hS9 hown9 hb9 hg9 hn9 x0 x1 x2 f0 f1 f2 xl y0 y1 y2 g0 g1 g2 yl z0 z1 z2 i0 i1 i2 zl HS HS5 HSZ HSZ5 hal
      obtain ⟨x0, x1, x2, f0, f1, f2, xl⟩ := HS9.out.box
      obtain ⟨r0, r1, r2, h0, h1, h2, rl⟩ := HS9.out.res
      go_wp2
      obtain ⟨t1, t2, t3⟩ := HS9.out.fin (.string a.name) (.slice D9 (n1 + 1) m9) (.slice D2 n2 m2)
      exact bodyPost_ret (v := .agg #[.string a.name, .slice D9 (n1 + 1) m9, .slice D2 n2 m2]) (by simp [results, Tryd.results135, go_sem, r0, r1, r2]) rfl
        ⟨⟨a.name, a.cuts ++ [u], a.vals⟩, _, _, _, _, _, _, rfl, t1, ⟨HT.out.1, HT.out.2.1, by have := HL.out.1; simp only [List.length_append, List.length_cons, List.length_nil]; omega, HT.out.2.2.2⟩, t2, t3⟩
  · obtain ⟨x0, x1, x2, f0, f1, f2, xl⟩ := HS.out.box
    have HSZ := hide HS.out.only.size
    have hal := hide (fun o1 => (((Below.refl w4.heap.size w4).alloc (Nat.le_refl _) o1).drew : Below w4.heap.size w4 (w4.alloc o1).drew))
    go_wp2
    go_region_law (first
      | (go_simp; go_at_call 100; refine (l1Pick_any b (some ⟨w4.heap.size, 0, none⟩) 3 3 badVals _ (HS.out.cur.keep (hal.out _)) (strs_lit w4 badVals _) (fun _ => lit_apart HS.out.cur) (by omega) (by omega)).mono ?_; rintro e w5 ⟨k, hk, rfl, hC3, ho3⟩; obtain ⟨u, hu, hus⟩ : ∃ u, badVals[k]?.getD ByteArray.empty = u ∧ u.size ≤ 16 := ⟨_, rfl, badVals_size k hk⟩; rw [hu]; have HUS := hide hus; have HS5 := hide ((HS.out.keep (hal.out _)).draw hC3 ho3); obtain ⟨y0, y1, y2, g0, g1, g2, yl⟩ := HS5.out.box; have HSZ5 := hide HS5.out.only.size; clear hC3 ho3 hu hk hus)
      | (refine step_append_src _ rfl (.tmp 29) (.tmp 33) 23 rfl w.heap.size 9 (.string ⟨#[]⟩) 1 16 Tryd.underlying23 infoS rfl (by decide) (.slice D2 n2 m2) n2 (a.vals.map Value.string) [.string u] rfl ((attr_own2 HS5.out.bag).alloc _) _ 1 1 rfl rfl (new_cells rfl _ _) (by simp [Value.oneCell']) (by unfold maxLen; omega) (by omega) (by have := HSZ5.out; simp; omega) ?_; intro v' w9 hown9 hb9 hg9 hn9; obtain ⟨D9, m9, rfl⟩ := own_shape hown9; obtain ⟨z0, z1, z2, i0, i1, i2, zl⟩ := ((HS5.out.keep ((Below.refl _ _).alloc (Nat.le_refl _) _)).turn2 hb9 hg9).2.1))
    all_goals
      obtain ⟨A9, c9, e9, hS9⟩ := (HS5.out.keep ((Below.refl _ _).alloc (Nat.le_refl _) _)).val hown9 hb9 hg9 hn9
      injection e9 with e91 _ e92
      subst e91 e92
      have HS9 := hide hS9
      clear hS9 hown9 hb9 hg9 hn9 x0 x1 x2 f0 f1 f2 xl y0 y1 y2 g0 g1 g2 yl z0 z1 z2 i0 i1 i2 zl HS HS5 HSZ HSZ5 hal
      obtain ⟨x0, x1, x2, f0, f1, f2, xl⟩ := HS9.out.box
      obtain ⟨r0, r1, r2, h0, h1, h2, rl⟩ := HS9.out.res
      go_wp2
      obtain ⟨t1, t2, t3⟩ := HS9.out.fin (.string a.name) (.slice D1 n1 m1) (.slice D9 (n2 + 1) m9)
      exact bodyPost_ret (v := .agg #[.string a.name, .slice D1 n1 m1, .slice D9 (n2 + 1) m9]) (by simp [results, Tryd.results135, go_sem, r0, r1, r2]) rfl
        ⟨⟨a.name, a.cuts, a.vals ++ [u]⟩, _, _, _, _, _, _, rfl, t1, ⟨HT.out.1, one_more HT.out.2.1 HUS.out, HT.out.2.2.1, by have := HL.out.2; simp only [List.length_append, List.length_cons, List.length_nil]; omega⟩, t2, t3⟩
  · 
    obtain ⟨x0, x1, x2, f0, f1, f2, xl⟩ := HS.out.box
    obtain ⟨r0, r1, r2, h0, h1, h2, rl⟩ := HS.out.res
    have HSZ := hide HS.out.only.size
    go_wp2
    obtain ⟨t1, t2, t3⟩ := (HS.out.cuts_lit [] (by decide)).fin (.string a.name) (.slice (some ⟨w4.heap.size, 0, none⟩) 0 0) (.slice D2 n2 m2)
    simp (disch := first | omega | (simp <;> omega)) only [World.setCell_alloc_past, List.map_nil, List.map_cons, List.length_nil, List.length_cons, Nat.zero_add] at t1 t2 t3
    exact bodyPost_ret (v := .agg #[.string a.name, .slice (some ⟨w4.heap.size, 0, none⟩) 0 0, .slice D2 n2 m2]) (by simp [results, Tryd.results135, go_sem, r0, r1, r2, rl, xl, hrx]) rfl
      ⟨⟨a.name, [], a.vals⟩, _, _, _, _, _, _, rfl, t1, ⟨HT.out.1, HT.out.2.1, Nat.zero_le _, HT.out.2.2.2⟩, t2, t3⟩
  · 
    obtain ⟨x0, x1, x2, f0, f1, f2, xl⟩ := HS.out.box
    obtain ⟨r0, r1, r2, h0, h1, h2, rl⟩ := HS.out.res
    have HSZ := hide HS.out.only.size
    go_wp2
    obtain ⟨t1, t2, t3⟩ := ((HS.out.cuts_lit [9998] (by decide)).vals_lit' (g := w4.heap.size + 1) (by simp) [] (by decide)).fin (.string a.name) (.slice (some ⟨w4.heap.size, 0, none⟩) 1 1) (.slice (some ⟨w4.heap.size + 1, 0, none⟩) 0 0)
    simp (disch := first | omega | (simp <;> omega)) only [World.setCell_alloc_past, List.map_nil, List.map_cons, List.length_nil, List.length_cons, Nat.zero_add] at t1 t2 t3
    exact bodyPost_ret (v := .agg #[.string a.name, .slice (some ⟨w4.heap.size, 0, none⟩) 1 1, .slice (some ⟨w4.heap.size + 1, 0, none⟩) 0 0]) (by simp [results, Tryd.results135, go_sem, r0, r1, r2, rl, xl, hrx]) rfl
      ⟨⟨a.name, [9998], []⟩, _, _, _, _, _, _, rfl, t1, ⟨HT.out.1, (by simp), (by simp), (by simp)⟩, t2, t3⟩
  · have h0 : (x == 0) = false := beq_eq_false_iff_ne.2 (by omega)
    have h1 : (x == 1) = false := beq_eq_false_iff_ne.2 (by omega)
    have h2 : (x == 2) = false := beq_eq_false_iff_ne.2 (by omega)
    have h3 : (x == 3) = false := beq_eq_false_iff_ne.2 (by omega)
    have h4 : (x == 4) = false := beq_eq_false_iff_ne.2 (by omega)
    obtain ⟨x0, x1, x2, f0, f1, f2, xl⟩ := HS.out.box
    obtain ⟨r0, r1, r2, i0, i1, i2, rl⟩ := HS.out.res
    have HSZ := hide HS.out.only.size
    go_wp2
    obtain ⟨t1, t2, t3⟩ := (HS.out).fin (.string a.name) (.slice D1 n1 m1) (.slice D2 n2 m2)
    exact bodyPost_ret (v := .agg #[.string a.name, .slice D1 n1 m1, .slice D2 n2 m2]) (by simp [results, Tryd.results135, go_sem, r0, r1, r2, rl, xl, hrx]) rfl
      ⟨a, _, _, _, _, _, _, rfl, t1, HT.out, t2, t3⟩
end Go.Proofs.YtohodehmidbmlaaDoor
namespace Go.Proofs.YtohodehmidbmlaaDoor
open Go.RowKit
set_option maxRecDepth 100000

/-- The result's box r, the schema's box x, its rows, the cursor b. -/
structure SState (w : World) (b r x : Nat) (W : World) (A : Option Addr) (n c : Nat) (D : Option Addr) (m k : Nat) (rr : Nat → Row) (d : SchemaD) : Prop where
  ord : b < w.heap.size ∧ w.heap.size ≤ r ∧ w.heap.size ≤ x ∧ r ≠ x
  res : BoxW W r (.slice none 0 0) (.slice none 0 0)
  box : BoxW W x (.slice A n c) (.slice D m k)
  sch : SchP w.heap.size W A n c D m k rr d
  ap1 : ∀ j, has (1 + 2 * n) rr j → j ≠ x ∧ j ≠ r
  ap2 : ∀ j, Value.ownBlock (.slice D m k) = some j → j ≠ x ∧ j ≠ r
  cur : Cur W b
  only : Only (· = b) w W
section
variable {w W W2 : World} {b r x : Nat} {A D : Option Addr} {n c m k : Nat} {rr : Nat → Row} {d : SchemaD}
theorem SState.draw (h : SState w b r x W A n c D m k rr d) (hC : Cur W2 b) (ho : Only (· = b) W W2) : SState w b r x W2 A n c D m k rr d := by
  have ho' := h.ord
  exact ⟨h.ord, h.res.only ho (by omega), h.box.only ho (by omega), h.sch.only ho (fun k e => by omega), h.ap1, h.ap2, hC, h.only.trans ho⟩
theorem SState.keep (h : SState w b r x W A n c D m k rr d) (hb : Below W.heap.size W W2) : SState w b r x W2 A n c D m k rr d :=
  ⟨h.ord, h.res.keep hb, h.box.keep hb, h.sch.below hb, h.ap1, h.ap2, h.cur.keep hb, h.only.trans (Only.of_below hb)⟩
/-- What stays when a row is written or laid anew. -/
def SKept (w : World) (b r x : Nat) (w9 : World) (A : Option Addr) (n c : Nat) (D : Option Addr) (m k : Nat) : Prop :=
  BoxW w9 r (.slice none 0 0) (.slice none 0 0) ∧ BoxW w9 x (.slice A n c) (.slice D m k) ∧ Cur w9 b ∧ Only (· = b) w w9
theorem SState.outer (h : SState w b r x W A n c D m k rr d) : W.ownsRow w.heap.size 64 3 (.slice A n c) n (rr 0).xs := h.sch.to.outer h.sch.bag (by omega)
theorem SState.blk0 (h : SState w b r x W A n c D m k rr d) {j : Nat} (hj : Value.ownBlock (.slice A n c) = some j) : has (1 + 2 * n) rr j := by
  refine ⟨0, by omega, ?_⟩
  unfold Row.blk
  rw [h.sch.to.head.2.2.1]
  exact hj
theorem SState.turn1 {w9 : World} (h : SState w b r x W A n c D m k rr d) (hb : Below w.heap.size W w9) (hg : W.grownBy w9 (Value.ownBlock (.slice A n c))) : SKept w b r x w9 A n c D m k := by
  have hs : Only (fun j => Value.ownBlock (.slice A n c) = some j) W w9 := Only.of_grown hg fun k hk => hk
  exact ⟨h.res.only hs (fun e => (h.ap1 _ (h.blk0 e)).2 rfl), h.box.only hs (fun e => (h.ap1 _ (h.blk0 e)).1 rfl), Cur.low h.cur h.ord.1 hb, h.only.low hb⟩
theorem SState.turn2 {w9 : World} (h : SState w b r x W A n c D m k rr d) (hb : Below w.heap.size W w9) (hg : W.grownBy w9 (Value.ownBlock (.slice D m k))) : SKept w b r x w9 A n c D m k := by
  have hs : Only (fun j => Value.ownBlock (.slice D m k) = some j) W w9 := Only.of_grown hg fun k hk => hk
  exact ⟨h.res.only hs (fun e => (h.ap2 _ e).2 rfl), h.box.only hs (fun e => (h.ap2 _ e).1 rfl), Cur.low h.cur h.ord.1 hb, h.only.low hb⟩
theorem SState.put1 {w9 : World} {A' : Option Addr} {n' c' : Nat} {rr' : Nat → Row} {d' : SchemaD} (h0 : SState w b r x W A n c D m k rr d) (h : SKept w b r x w9 A n c D m k)
    (hS : SchP w.heap.size w9 A' n' c' D m k rr' d') (hap : ∀ j, has (1 + 2 * n') rr' j → j ≠ x ∧ j ≠ r) : SState w b r x (w9.setCell ⟨x, 0, none⟩ (.slice A' n' c')) A' n' c' D m k rr' d' := by
  have ho' := h0.ord
  have hs := only_set (w := w9) (p := ⟨x, 0, none⟩) (.slice A' n' c')
  have hlow : Below w.heap.size w9 (w9.setCell ⟨x, 0, none⟩ (.slice A' n' c')) := (Below.refl _ _).setCell (p := ⟨x, 0, none⟩) ho'.2.2.1 _
  exact ⟨ho', h.1.only hs (by show ¬ x = r; omega), h.2.1.set0 _,
    ⟨hS.bag.only hs (fun j hj e => (hap j hj).1 (Eq.symm e)), hS.to, own_only hS.cls hs (fun j hj e => (h0.ap2 j hj).1 (Eq.symm e)), hS.sep, hS.b1, hS.b2, hS.s1, hS.s2⟩, hap, h0.ap2, Cur.low h.2.2.1 ho'.1 hlow, h.2.2.2.low hlow⟩
theorem SState.put2 {w9 : World} {D' : Option Addr} {m' k' : Nat} {d' : SchemaD} (h0 : SState w b r x W A n c D m k rr d) (h : SKept w b r x w9 A n c D m k)
    (hS : SchP w.heap.size w9 A n c D' m' k' rr d') (hap : ∀ j, Value.ownBlock (.slice D' m' k') = some j → j ≠ x ∧ j ≠ r) : SState w b r x (w9.setCell ⟨x, 1, none⟩ (.slice D' m' k')) A n c D' m' k' rr d' := by
  have ho' := h0.ord
  have hs := only_set (w := w9) (p := ⟨x, 1, none⟩) (.slice D' m' k')
  have hlow : Below w.heap.size w9 (w9.setCell ⟨x, 1, none⟩ (.slice D' m' k')) := (Below.refl _ _).setCell (p := ⟨x, 1, none⟩) ho'.2.2.1 _
  exact ⟨ho', h.1.only hs (by show ¬ x = r; omega), h.2.1.set1 _,
    ⟨hS.bag.only hs (fun j hj e => (h0.ap1 j hj).1 (Eq.symm e)), hS.to, own_only hS.cls hs (fun j hj e => (hap j hj).1 (Eq.symm e)), hS.sep, hS.b1, hS.b2, hS.s1, hS.s2⟩, h0.ap1, hap, Cur.low h.2.2.1 ho'.1 hlow, h.2.2.2.low hlow⟩
/-- One class more. -/
theorem SState.word {w9 : World} {v : Value} {u : ByteArray} (h : SState w b r x W A n c D m k rr d) (hv : w9.ownsRow w.heap.size 9 1 v (m + 1) (d.classes.map Value.string ++ [.string u])) (hb : Below w.heap.size W w9)
    (hg : W.grownBy w9 (Value.ownBlock (.slice D m k))) (hnew : ∀ g, v.ownBlock = some g → Value.ownBlock (.slice D m k) = some g ∨ W.heap.size ≤ g) (hm : m + 1 ≤ 1048576) (hu : u.size ≤ 1048576) :
    ∃ D2 k2, v = .slice D2 (m + 1) k2 ∧ SState w b r x (w9.setCell ⟨x, 1, none⟩ v) A n c D2 (m + 1) k2 rr ⟨d.attrs, d.classes ++ [u]⟩ := by
  obtain ⟨D2, k2, rfl, hS⟩ := h.sch.word hv hg hnew hm hu
  refine ⟨D2, k2, rfl, h.put2 (h.turn2 hb hg) hS fun j hj => ?_⟩
  rcases hnew j hj with q | q
  · exact h.ap2 j q
  · have := h.box.lt; have := h.res.lt; omega
/-- The first class alone. -/
theorem SState.first (h : SState w b r x W A n c D m k rr d) (hm : 1 ≤ m) : SState w b r x (W.setCell ⟨x, 1, none⟩ (.slice D 1 k)) A n c D 1 k rr ⟨d.attrs, d.classes.take 1⟩ :=
  h.put2 ⟨h.res, h.box, h.cur, h.only⟩ (h.sch.first hm) fun j hj => h.ap2 j (by cases D <;> exact hj)
/-- No attributes. -/
theorem SState.noattr (h : SState w b r x W A n c D m k rr d) :
    ∃ rr', SState w b r x ((W.alloc (.cells #[] 64)).setCell ⟨x, 0, none⟩ (.slice (some ⟨W.heap.size, 0, none⟩) 0 0)) (some ⟨W.heap.size, 0, none⟩) 0 0 D m k rr' ⟨[], d.classes⟩ := by
  have hal : Below W.heap.size W (W.alloc (.cells #[] 64)) := (Below.refl _ _).alloc (Nat.le_refl _) _
  have hk := h.keep hal
  refine ⟨_, h.put1 ⟨hk.res, hk.box, hk.cur, hk.only⟩ (h.sch.none_ h.only.size) fun j hj => ?_⟩
  obtain ⟨i, -, e⟩ := hj
  have e2 : some W.heap.size = some j := e
  injection e2 with e2
  have := h.box.lt; have := h.res.lt; omega
/-- One attribute more. -/
theorem SState.attr {W6 w9 : World} {D1 D2 : Option Addr} {n1 m1 n2 m2 : Nat} {a : AttrD} {v : Value} (h0 : SState w b r x W A n c D m k rr d) (h : SState w b r x W6 A n c D m k rr d)
    (ho : Bag W.heap.size 2 W6 (attrRows D1 n1 m1 D2 n2 m2 a)) (hsz : W.heap.size ≤ W6.heap.size)
    (hv : w9.ownsRow w.heap.size 64 3 v (n + 1) ((rr 0).xs ++ [.string a.name, .slice D1 n1 m1, .slice D2 n2 m2])) (hb : Below w.heap.size W6 w9) (hg : W6.grownBy w9 (Value.ownBlock (.slice A n c)))
    (hnew : ∀ g, v.ownBlock = some g → Value.ownBlock (.slice A n c) = some g ∨ W6.heap.size ≤ g) (hn : n + 1 ≤ 1048576) (hs : attrSmall a) :
    ∃ A2 c2 r', v = .slice A2 (n + 1) c2 ∧ SState w b r x (w9.setCell ⟨x, 0, none⟩ v) A2 (n + 1) c2 D m k r' ⟨d.attrs ++ [a], d.classes⟩ := by
  obtain ⟨A2, c2, r', rfl, hS, hh⟩ := h.sch.attr ho h0.only.size hsz (fun j hj => (h0.sch.bag.lt hj).2) (fun g hg => (h0.sch.cls.lt g hg).2) hv hg hnew hn hs
  refine ⟨A2, c2, r', rfl, h.put1 (h.turn1 hb hg) hS fun j hj => ?_⟩
  rcases hh j hj with q | q
  · exact h.ap1 j q
  · have := h0.box.lt; have := h0.res.lt; omega
/-- The result written. -/
theorem SState.fin (h : SState w b r x W A n c D m k rr d) (u0 u1 : Value) : SchP w.heap.size ((W.setCell ⟨r, 0, none⟩ u0).setCell ⟨r, 1, none⟩ u1) A n c D m k rr d ∧
    Cur ((W.setCell ⟨r, 0, none⟩ u0).setCell ⟨r, 1, none⟩ u1) b ∧ Only (· = b) w ((W.setCell ⟨r, 0, none⟩ u0).setCell ⟨r, 1, none⟩ u1) := by
  have hs : Only (fun j => r = j) W ((W.setCell ⟨r, 0, none⟩ u0).setCell ⟨r, 1, none⟩ u1) := ((Only.refl _ W).setCell (p := ⟨r, 0, none⟩) rfl _).setCell (p := ⟨r, 1, none⟩) rfl _
  have hlow : Below w.heap.size W ((W.setCell ⟨r, 0, none⟩ u0).setCell ⟨r, 1, none⟩ u1) := ((Below.refl _ _).setCell (p := ⟨r, 0, none⟩) h.ord.2.1 _).setCell (p := ⟨r, 1, none⟩) h.ord.2.1 _
  exact ⟨⟨h.sch.bag.only hs (fun j hj e => (h.ap1 j hj).2 (Eq.symm e)), h.sch.to, own_only h.sch.cls hs (fun j hj e => (h.ap2 j hj).2 (Eq.symm e)), h.sch.sep, h.sch.b1, h.sch.b2, h.sch.s1, h.sch.s2⟩, Cur.low h.cur h.ord.1 hlow, h.only.low hlow⟩
end
end Go.Proofs.YtohodehmidbmlaaDoor
namespace Go.Proofs.YtohodehmidbmlaaDoor
open Go.RowKit
set_option maxRecDepth 100000
set_option linter.unusedSimpArgs false

def classL : List ByteArray := [⟨#[110, 111]⟩, ⟨#[121, 101, 115]⟩]
def badClass : List ByteArray := [⟨#[110, 111]⟩, ⟨#[111, 116, 104, 101, 114]⟩, ⟨#[]⟩]
theorem badClass_size : ∀ k, k < 3 → (badClass[k]?.getD ByteArray.empty).size ≤ 16 := by decide

set_option maxHeartbeats 4000000 in
theorem l5Right_any (b : Nat) (w : World) (h : Cur w b) :
    Calls Tryd.prog 134 #[.pointer (some ⟨b, 0, none⟩)] w fun e w' => ∃ A n c D m k rr d, e = .returned (.agg #[.slice A n c, .slice D m k]) ∧ SchP w.heap.size w' A n c D m k rr d ∧ n ≤ 5 ∧ 2 ≤ m ∧ m ≤ 3 ∧ Cur w' b ∧ Only (· = b) w w' := by
  have HC := hide h
  have hbw := h.lt
  clear h
  obtain ⟨W0, hW0⟩ : ∃ W, W = w.alloc (.cells #[.slice none 0 0, .slice none 0 0] 35) := ⟨_, rfl⟩
  have HZ0 := hide (show W0.heap.size = w.heap.size + 1 by rw [hW0]; simp)
  have hR0 := BoxW.new w (.slice none 0 0) (.slice none 0 0) 35
  rw [← hW0] at hR0
  have hal0 : Below w.heap.size w W0 := by rw [hW0]; exact (Below.refl _ _).alloc (Nat.le_refl _) _
  obtain ⟨V, hV⟩ : ∃ W, W = W0.alloc (.cells (classL.map Value.string).toArray 9) := ⟨_, rfl⟩
  have hcls := own_lit (B := w.heap.size) (e := 9) W0 (classL.map Value.string) (by have := HZ0.out; omega) (by decide)
  have hal1 : Below W0.heap.size W0 V := by rw [hV]; exact (Below.refl _ _).alloc (Nat.le_refl _) _
  have HZ1 := hide (show V.heap.size = w.heap.size + 1 + 1 by rw [hV]; simp [HZ0.out])
  rw [← hV, HZ0.out] at hcls
  obtain ⟨W1, hW1⟩ : ∃ W, W = V.alloc (.cells #[.slice none 0 0, .slice (some ⟨w.heap.size + 1, 0, none⟩) 2 2] 35) := ⟨_, rfl⟩
  have hal2 : Below V.heap.size V W1 := by rw [hW1]; exact (Below.refl _ _).alloc (Nat.le_refl _) _
  have hX := BoxW.new V (.slice none 0 0) (.slice (some ⟨w.heap.size + 1, 0, none⟩) 2 2) 35
  rw [← hW1, HZ1.out] at hX
  have hsch : SchP w.heap.size W1 none 0 0 (some ⟨w.heap.size + 1, 0, none⟩) 2 2 (fun _ => ⟨64, 3, .slice none 0 0, 0, []⟩) ⟨[], classL⟩ :=
    ⟨Bag.one (s := ⟨64, 3, .slice none 0 0, 0, []⟩) (World.ownsRow_nil _ _ _ _), ⟨rfl, ⟨rfl, rfl, rfl, rfl⟩, fun i hi => by omega⟩, own_below hcls hal2, (fun g _ hr => by
      obtain ⟨i, -, e⟩ := hr
      cases e), by omega, by omega, by simp, by decide⟩
  have hal : Below w.heap.size w W1 := bthen hal0 (bthen hal1 hal2)
  have HS := hide (show SState w b w.heap.size (w.heap.size + 1 + 1) W1 none 0 0 (some ⟨w.heap.size + 1, 0, none⟩) 2 2 (fun _ => ⟨64, 3, .slice none 0 0, 0, []⟩) ⟨[], classL⟩ from
    ⟨by omega, hR0.keep (bthen hal1 hal2), hX, hsch, (fun j hj => by obtain ⟨i, -, e⟩ := hj; cases e), (fun j hj => by have e : some (w.heap.size + 1) = some j := hj; injection e with e; omega), HC.out.keep hal, Only.of_below hal⟩)
  have hWE : W1 = ((w.alloc (.cells #[.slice none 0 0, .slice none 0 0] 35)).alloc (.cells #[.string ⟨#[110, 111]⟩, .string ⟨#[121, 101, 115]⟩] 9)).alloc (.cells #[.slice none 0 0, .slice (some ⟨w.heap.size + 1, 0, none⟩) 2 2] 35) := by
    rw [hW1, hV, hW0]; rfl
  have HW := hide hWE
  clear hWE hsch hX hcls hal0 hal1 hal2 hal hR0 hW0 hW1 hV HZ0 HZ1 HC
  go_enter Tryd.func134, Tryd.ntmps134
  go_wp2_with (fail)
  rw [← HW.out]
  refine (l1Once_any b 3 _ HS.out.cur (by omega)).mono ?_
  rintro e wr ⟨x, rfl, hC2, ho2⟩
  replace HS := hide (HS.out.draw hC2 ho2)
  clear ho2 hC2 HW
  have hst : ∀ x : Bool, x = x := fun _ => rfl
  cases x
  · obtain ⟨D, m, k, rr, d, hS, hm2, hm3⟩ : ∃ D m k rr d, SState w b w.heap.size (w.heap.size + 1 + 1) wr none 0 0 D m k rr d ∧ 2 ≤ m ∧ m ≤ 3 := ⟨_, _, _, _, _, HS.out, by omega, by omega⟩
    clear HS
    have HS := hide hS
    clear hS
    go_wp2_with (fail)
    refine (l1Below_any b 5 _ HS.out.cur (by omega)).mono ?_
    rintro e w3 ⟨x, rfl, hx0, hx1, -, hC3, ho3⟩
    replace HS := hide (HS.out.draw hC3 ho3)
    clear hC3 ho3
    obtain ⟨N, hN, hN4⟩ : ∃ N : Nat, 1 + x = N ∧ N ≤ 5 := ⟨(1 + x).toNat, by omega, by have := hx1 (by omega); omega⟩
    clear hx0 hx1
    go_wp2
    go_loopw [5] (fun j W => ∃ K : Nat, K ≤ N ∧ j = .int .i64 K ∧ (∃ A c rr d, SState w b w.heap.size (w.heap.size + 1 + 1) W A K c D m k rr d)) (fun j _ => N - (intOf j).toNat)
    case atStart => exact ⟨0, Nat.zero_le _, rfl, none, 0, rr, d, HS.out⟩
    case round =>
      clear HS
      obtain ⟨K, hk, rfl, ⟨A, c, rr, d, hS⟩⟩ := hrel
      have HS := hide hS
      clear hS
      by_cases hlt : K < N
      · obtain ⟨x0, x1, f0, f1, xl⟩ := HS.out.box
        have HSD := hide (HS.out.keep ((Below.refl _ _).drew))
        go_wp2
        go_region_law (first
      | (go_simp; go_at_call 150; refine (l5RightAttr_any b K _ HSD.out.cur (by omega)).mono ?_; rintro e w5 ⟨a, D1, n1, m1, D2, n2, m2, rfl, hbag5, hnm, hvs, hn1, hn2, -, hC3, ho3⟩; have HS5 := hide (HSD.out.draw hC3 ho3); have HB5 := hide hbag5; obtain ⟨y0, y1, g0, g1, yl⟩ := HS5.out.box; have HSZ5 := hide HS5.out.only.size; have HWZ := hide (show wr.heap.size ≤ w5.heap.size from ho3.size); have HAS := hide (show attrSmall a from ⟨by omega, fun s hs => by have := hvs s hs; omega, by have := (ints_of (attr_own1 hbag5)).1; omega, by have := (strs_of (attr_own2 hbag5)).1; omega⟩); clear hC3 ho3 hbag5)
      | (refine step_append_src _ rfl (.tmp 24) (.tmp 28) 33 rfl w.heap.size 64 (.agg #[.string ⟨#[]⟩, .slice none 0 0, .slice none 0 0]) 3 64 Tryd.underlying33 infoA rfl (by decide) (.slice A K c) K (rr 0).xs [.string a.name, .slice D1 n1 m1, .slice D2 n2 m2] rfl ((HS5.out.outer).alloc _) _ 1 1 rfl rfl (new_cells rfl _ _) (by simp [Value.oneCell']) (by unfold maxLen; omega) (by omega) (by have := HSZ5.out; simp; omega) ?_; intro v' w9 hown9 hb9 hg9 hn9; obtain ⟨D9, m9, rfl⟩ := own_shape hown9; obtain ⟨z0, z1, i0, i1, zl⟩ := ((HS5.out.keep ((Below.refl _ _).alloc (Nat.le_refl _) _)).turn1 hb9 hg9).2.1))
        all_goals
          obtain ⟨A9, c9, r9, e9, hS9⟩ := SState.attr HS.out (HS5.out.keep ((Below.refl _ _).alloc (Nat.le_refl _) _)) (HB5.out.below ((Below.refl _ _).alloc (Nat.le_refl _) _)) (by simp; exact Nat.le_succ_of_le HWZ.out) hown9 hb9 hg9 hn9 (by omega) HAS.out
          injection e9 with e91 _ e92
          subst e91 e92
          have HS9 := hide hS9
          clear hS9 hown9 hb9 hg9 hn9 x0 x1 f0 f1 xl y0 y1 g0 g1 yl z0 z1 i0 i1 zl HSZ5 HSD HS HS5 HB5
          go_wp2
          exact ⟨⟨K + 1, by omega, by go_num, ⟨D9, m9, _, _, HS9.out⟩⟩, by simp [intOf]; omega⟩
      · obtain rfl : N = K := by omega
        obtain ⟨x0, x1, f0, f1, xl⟩ := HS.out.box
        obtain ⟨r0, r1, g0, g1, rl⟩ := HS.out.res
        go_wp2
        obtain ⟨t1, t2, t3⟩ := HS.out.fin (.slice A N c) (.slice D m k)
        exact bodyPost_ret (v := .agg #[.slice A N c, .slice D m k]) (by simp [results, Tryd.results134, go_sem, r0, r1]) rfl
          ⟨A, N, c, D, m, k, rr, d, rfl, t1, by omega, hm2, hm3, t2, t3⟩
  · obtain ⟨x0, x1, f0, f1, xl⟩ := HS.out.box
    have HSZ := hide HS.out.only.size
    go_wp2_with (at_builtin; go_must (refine wpList_append_one wr rfl _ _ 23 rfl w.heap.size 9 (.string ⟨#[]⟩) 1 16 Tryd.underlying23 infoS rfl (by decide) _ 2 _ [.string ⟨#[112, 101, 114, 104, 97, 112, 115]⟩] rfl HS.out.sch.cls _ rfl rfl (by simp [Value.oneCell']) rfl (by unfold maxLen; omega) (by omega) HSZ.out ?_); intro v' w9 hown9 hb9 hn9 hg9; obtain ⟨D9, m9, rfl⟩ := own_shape hown9; obtain ⟨y0, y1, g0, g1, yl⟩ := (HS.out.turn2 hb9 hg9).2.1)
    obtain ⟨A9, c9, e9, hS9⟩ := HS.out.word hown9 hb9 hg9 hn9 (by omega) (by decide)
    injection e9 with e91 _ e92
    subst e91 e92
    obtain ⟨D, m, k, rr, d, hS, hm2, hm3⟩ : ∃ D m k rr d, SState w b w.heap.size (w.heap.size + 1 + 1) (w9.setCell ⟨w.heap.size + 1 + 1, 1, none⟩ (.slice D9 (2 + 1) m9)) none 0 0 D m k rr d ∧ 2 ≤ m ∧ m ≤ 3 := ⟨_, _, _, _, _, hS9, by omega, by omega⟩
    clear HS
    have HS := hide hS
    clear hS hS9 hown9 hb9 hg9 hn9 x0 x1 f0 f1 xl y0 y1 g0 g1 yl HSZ
    refine (l1Below_any b 5 _ HS.out.cur (by omega)).mono ?_
    rintro e w3 ⟨x, rfl, hx0, hx1, -, hC3, ho3⟩
    replace HS := hide (HS.out.draw hC3 ho3)
    clear hC3 ho3
    obtain ⟨N, hN, hN4⟩ : ∃ N : Nat, 1 + x = N ∧ N ≤ 5 := ⟨(1 + x).toNat, by omega, by have := hx1 (by omega); omega⟩
    clear hx0 hx1
    go_wp2
    go_loopw [5] (fun j W => ∃ K : Nat, K ≤ N ∧ j = .int .i64 K ∧ (∃ A c rr d, SState w b w.heap.size (w.heap.size + 1 + 1) W A K c D m k rr d)) (fun j _ => N - (intOf j).toNat)
    case atStart => exact ⟨0, Nat.zero_le _, rfl, none, 0, rr, d, HS.out⟩
    case round =>
      clear HS
      obtain ⟨K, hk, rfl, ⟨A, c, rr, d, hS⟩⟩ := hrel
      have HS := hide hS
      clear hS
      by_cases hlt : K < N
      · obtain ⟨x0, x1, f0, f1, xl⟩ := HS.out.box
        have HSD := hide (HS.out.keep ((Below.refl _ _).drew))
        go_wp2
        go_region_law (first
      | (go_simp; go_at_call 150; refine (l5RightAttr_any b K _ HSD.out.cur (by omega)).mono ?_; rintro e w5 ⟨a, D1, n1, m1, D2, n2, m2, rfl, hbag5, hnm, hvs, hn1, hn2, -, hC3, ho3⟩; have HS5 := hide (HSD.out.draw hC3 ho3); have HB5 := hide hbag5; obtain ⟨y0, y1, g0, g1, yl⟩ := HS5.out.box; have HSZ5 := hide HS5.out.only.size; have HWZ := hide (show wr.heap.size ≤ w5.heap.size from ho3.size); have HAS := hide (show attrSmall a from ⟨by omega, fun s hs => by have := hvs s hs; omega, by have := (ints_of (attr_own1 hbag5)).1; omega, by have := (strs_of (attr_own2 hbag5)).1; omega⟩); clear hC3 ho3 hbag5)
      | (refine step_append_src _ rfl (.tmp 24) (.tmp 28) 33 rfl w.heap.size 64 (.agg #[.string ⟨#[]⟩, .slice none 0 0, .slice none 0 0]) 3 64 Tryd.underlying33 infoA rfl (by decide) (.slice A K c) K (rr 0).xs [.string a.name, .slice D1 n1 m1, .slice D2 n2 m2] rfl ((HS5.out.outer).alloc _) _ 1 1 rfl rfl (new_cells rfl _ _) (by simp [Value.oneCell']) (by unfold maxLen; omega) (by omega) (by have := HSZ5.out; simp; omega) ?_; intro v' w9 hown9 hb9 hg9 hn9; obtain ⟨D9, m9, rfl⟩ := own_shape hown9; obtain ⟨z0, z1, i0, i1, zl⟩ := ((HS5.out.keep ((Below.refl _ _).alloc (Nat.le_refl _) _)).turn1 hb9 hg9).2.1))
        all_goals
          obtain ⟨A9, c9, r9, e9, hS9⟩ := SState.attr HS.out (HS5.out.keep ((Below.refl _ _).alloc (Nat.le_refl _) _)) (HB5.out.below ((Below.refl _ _).alloc (Nat.le_refl _) _)) (by simp; exact Nat.le_succ_of_le HWZ.out) hown9 hb9 hg9 hn9 (by omega) HAS.out
          injection e9 with e91 _ e92
          subst e91 e92
          have HS9 := hide hS9
          clear hS9 hown9 hb9 hg9 hn9 x0 x1 f0 f1 xl y0 y1 g0 g1 yl z0 z1 i0 i1 zl HSZ5 HSD HS HS5 HB5
          go_wp2
          exact ⟨⟨K + 1, by omega, by go_num, ⟨D9, m9, _, _, HS9.out⟩⟩, by simp [intOf]; omega⟩
      · obtain rfl : N = K := by omega
        obtain ⟨x0, x1, f0, f1, xl⟩ := HS.out.box
        obtain ⟨r0, r1, g0, g1, rl⟩ := HS.out.res
        go_wp2
        obtain ⟨t1, t2, t3⟩ := HS.out.fin (.slice A N c) (.slice D m k)
        exact bodyPost_ret (v := .agg #[.slice A N c, .slice D m k]) (by simp [results, Tryd.results134, go_sem, r0, r1]) rfl
          ⟨A, N, c, D, m, k, rr, d, rfl, t1, by omega, hm2, hm3, t2, t3⟩


set_option maxHeartbeats 4000000 in
theorem l5Draw_any (b : Nat) (w : World) (h : Cur w b) :
    Calls Tryd.prog 98 #[.pointer (some ⟨b, 0, none⟩)] w fun e w' => ∃ x0 x1, e = .returned (.agg #[x0, x1]) ∧ (∃ d, SchemaO w.heap.size w'.heap.size w' x0 x1 d ∧ d.attrs.length ≤ 6) ∧ Cur w' b ∧ Only (· = b) w w' := by
  have hbw := h.lt
  have hR := BoxW.new w (.slice none 0 0) (.slice none 0 0) 35
  have hal : Below w.heap.size w (w.alloc (.cells #[.slice none 0 0, .slice none 0 0] 35)) := (Below.refl _ _).alloc (Nat.le_refl _) _
  have HC := hide (h.keep hal)
  clear h
  obtain ⟨W0, hW0⟩ : ∃ W, W = w.alloc (.cells #[.slice none 0 0, .slice none 0 0] 35) := ⟨_, rfl⟩
  have HZ0 := hide (show W0.heap.size = w.heap.size + 1 by rw [hW0]; simp)
  rw [← hW0] at hR hal HC
  have HW := hide hW0
  clear hW0
  go_enter Tryd.func98, Tryd.ntmps98
  go_wp2_with (fail)
  rw [← HW.out]
  refine (l5Right_any b _ HC.out).mono ?_
  rintro e w3 ⟨A, n, c, D, m, k, rr, d, rfl, hsch, hn, hm2, hm3, hC3, ho3⟩
  have hz3 : w.heap.size + 1 ≤ w3.heap.size := by rw [← HZ0.out]; exact ho3.size
  have hz0 := HZ0.out
  obtain ⟨W1, hW1⟩ : ∃ W, W = w3.alloc (.cells #[.slice A n c, .slice D m k] 35) := ⟨_, rfl⟩
  have hal1 : Below w3.heap.size w3 W1 := by rw [hW1]; exact (Below.refl _ _).alloc (Nat.le_refl _) _
  have hX := BoxW.new w3 (.slice A n c) (.slice D m k) 35
  rw [← hW1] at hX
  have HS := hide (show SState w b w.heap.size w3.heap.size W1 A n c D m k rr d from
    ⟨by omega, (hR.only ho3 (by omega)).keep hal1, hX, (hsch.mono (by omega)).below hal1,
      fun j hj => by have := hsch.bag.lt hj; omega, fun j hj => by have := hsch.cls.lt j hj; omega, hC3.keep hal1, ((Only.of_below (S := (· = b)) hal).trans ho3).trans (Only.of_below hal1)⟩)
  have HW1 := hide hW1
  have hrx : w.heap.size < w3.heap.size := by omega
  clear hsch hC3 ho3 hal1 hX hW1 hR hal HC HZ0 HW hz3 hz0
  go_wp2_with (fail)
  rw [← HW1.out]
  clear HW1
  refine (l1Below_any b 12 _ HS.out.cur (by omega)).mono ?_
  rintro e w4 ⟨x, rfl, hx0, -, -, hC3, ho3⟩
  replace HS := hide (HS.out.draw hC3 ho3)
  clear hC3 ho3
  rcases (show x = 0 ∨ x = 1 ∨ x = 2 ∨ x = 3 ∨ 4 ≤ x by omega) with rfl | rfl | rfl | rfl | hx5
  · obtain ⟨x0, x1, f0, f1, xl⟩ := HS.out.box
    have HSD := hide (HS.out.keep ((Below.refl _ _).drew))
    go_wp2
    go_region_law (first
      | (go_simp; go_at_call 135; refine (l5DrawAttr_any b _ HSD.out.cur).mono ?_; rintro e w5 ⟨a, D1, n1, m1, D2, n2, m2, rfl, hbag5, htiny, hC3, ho3⟩; have HS5 := hide (HSD.out.draw hC3 ho3); have HB5 := hide hbag5; obtain ⟨y0, y1, g0, g1, yl⟩ := HS5.out.box; have HSZ5 := hide HS5.out.only.size; have HWZ := hide (show w4.heap.size ≤ w5.heap.size from ho3.size); have HAS := hide (show attrSmall a from htiny.small); clear hC3 ho3 hbag5)
      | (refine step_append_src _ rfl (.tmp 11) (.tmp 14) 33 rfl w.heap.size 64 (.agg #[.string ⟨#[]⟩, .slice none 0 0, .slice none 0 0]) 3 64 Tryd.underlying33 infoA rfl (by decide) (.slice A n c) n (rr 0).xs [.string a.name, .slice D1 n1 m1, .slice D2 n2 m2] rfl ((HS5.out.outer).alloc _) _ 1 1 rfl rfl (new_cells rfl _ _) (by simp [Value.oneCell']) (by unfold maxLen; omega) (by omega) (by have := HSZ5.out; simp; omega) ?_; intro v' w9 hown9 hb9 hg9 hn9; obtain ⟨D9, m9, rfl⟩ := own_shape hown9; obtain ⟨z0, z1, i0, i1, zl⟩ := ((HS5.out.keep ((Below.refl _ _).alloc (Nat.le_refl _) _)).turn1 hb9 hg9).2.1))
    all_goals
      obtain ⟨A9, c9, r9, e9, hS9⟩ := SState.attr HS.out (HS5.out.keep ((Below.refl _ _).alloc (Nat.le_refl _) _)) (HB5.out.below ((Below.refl _ _).alloc (Nat.le_refl _) _)) (by simp; exact Nat.le_succ_of_le HWZ.out) hown9 hb9 hg9 hn9 (by omega) HAS.out
      injection e9 with e91 _ e92
      subst e91 e92
      clear HS
      have HS := hide hS9
      clear hS9 hown9 hb9 hg9 hn9 x0 x1 f0 f1 xl y0 y1 g0 g1 yl z0 z1 i0 i1 zl HSZ5 HSD HS5 HB5
      obtain ⟨x0, x1, f0, f1, xl⟩ := HS.out.box
      obtain ⟨r0, r1, h0, h1, rl⟩ := HS.out.res
      go_wp2
      obtain ⟨t1, t2, t3⟩ := (HS.out).fin (.slice D9 (n + 1) m9) (.slice D m k)
      exact bodyPost_ret (v := .agg #[.slice D9 (n + 1) m9, .slice D m k]) (by simp [results, Tryd.results98, go_sem, r0, r1]) rfl
          ⟨_, _, rfl, ⟨_, t1.o, Nat.le_trans (Nat.le_of_eq t1.to.len.symm) (by omega)⟩, t2, t3⟩
  · obtain ⟨x0, x1, f0, f1, xl⟩ := HS.out.box
    have hal := hide (fun o1 => (((Below.refl w4.heap.size w4).alloc (Nat.le_refl _) o1).drew : Below w4.heap.size w4 (w4.alloc o1).drew))
    go_wp2
    go_region_law (first
      | (go_simp; go_at_call 100; refine (l1Pick_any b (some ⟨w4.heap.size, 0, none⟩) 3 3 badClass _ (HS.out.cur.keep (hal.out _)) (strs_lit w4 badClass _) (fun _ => lit_apart HS.out.cur) (by omega) (by omega)).mono ?_; rintro e w5 ⟨q, hq, rfl, hC3, ho3⟩; obtain ⟨u, hu, hus⟩ : ∃ u, badClass[q]?.getD ByteArray.empty = u ∧ u.size ≤ 16 := ⟨_, rfl, badClass_size q hq⟩; rw [hu]; have HUS := hide hus; have HS5 := hide ((HS.out.keep (hal.out _)).draw hC3 ho3); obtain ⟨y0, y1, g0, g1, yl⟩ := HS5.out.box; have HSZ5 := hide HS5.out.only.size; clear hC3 ho3 hu hq hus)
      | (refine step_append_src _ rfl (.tmp 20) (.tmp 24) 23 rfl w.heap.size 9 (.string ⟨#[]⟩) 1 16 Tryd.underlying23 infoS rfl (by decide) (.slice D m k) m (d.classes.map Value.string) [.string u] rfl (HS5.out.sch.cls.alloc _) _ 1 1 rfl rfl (new_cells rfl _ _) (by simp [Value.oneCell']) (by unfold maxLen; omega) (by omega) (by have := HSZ5.out; simp; omega) ?_; intro v' w9 hown9 hb9 hg9 hn9; obtain ⟨D9, m9, rfl⟩ := own_shape hown9; obtain ⟨z0, z1, i0, i1, zl⟩ := ((HS5.out.keep ((Below.refl _ _).alloc (Nat.le_refl _) _)).turn2 hb9 hg9).2.1))
    all_goals
      obtain ⟨A9, c9, e9, hS9⟩ := (HS5.out.keep ((Below.refl _ _).alloc (Nat.le_refl _) _)).word hown9 hb9 hg9 hn9 (by omega) (by have := HUS.out; omega)
      injection e9 with e91 _ e92
      subst e91 e92
      clear HS
      have HS := hide hS9
      clear hS9 hown9 hb9 hg9 hn9 x0 x1 f0 f1 xl y0 y1 g0 g1 yl z0 z1 i0 i1 zl HSZ5 HS5 hal
      obtain ⟨x0, x1, f0, f1, xl⟩ := HS.out.box
      obtain ⟨r0, r1, h0, h1, rl⟩ := HS.out.res
      go_wp2
      obtain ⟨t1, t2, t3⟩ := (HS.out).fin (.slice A n c) (.slice D9 (m + 1) m9)
      exact bodyPost_ret (v := .agg #[.slice A n c, .slice D9 (m + 1) m9]) (by simp [results, Tryd.results98, go_sem, r0, r1]) rfl
          ⟨_, _, rfl, ⟨_, t1.o, Nat.le_trans (Nat.le_of_eq t1.to.len.symm) (by omega)⟩, t2, t3⟩
  · 
    obtain ⟨x0, x1, f0, f1, xl⟩ := HS.out.box
    obtain ⟨r0, r1, h0, h1, rl⟩ := HS.out.res
    obtain ⟨rr', hS⟩ := HS.out.noattr
    go_wp2
    obtain ⟨t1, t2, t3⟩ := (hS).fin (.slice (some ⟨w4.heap.size, 0, none⟩) 0 0) (.slice D m k)
    simp (disch := first | omega | (simp <;> omega)) only [World.setCell_alloc_past] at t1 t2 t3
    exact bodyPost_ret (v := .agg #[.slice (some ⟨w4.heap.size, 0, none⟩) 0 0, .slice D m k]) (by simp [results, Tryd.results98, go_sem, r0, r1, rl, xl, hrx]) rfl
          ⟨_, _, rfl, ⟨_, t1.o, Nat.le_trans (Nat.le_of_eq t1.to.len.symm) (by omega)⟩, t2, t3⟩
  · 
    obtain ⟨x0, x1, f0, f1, xl⟩ := HS.out.box
    obtain ⟨r0, r1, h0, h1, rl⟩ := HS.out.res
    have hm1 : (1 : Int) ≤ k := by have := own_cap HS.out.sch.cls; omega
    go_wp2
    obtain ⟨t1, t2, t3⟩ := (HS.out.first (by omega)).fin (.slice A n c) (.slice D 1 k)
    exact bodyPost_ret (v := .agg #[.slice A n c, .slice D 1 k]) (by simp [results, Tryd.results98, go_sem, r0, r1]) rfl
          ⟨_, _, rfl, ⟨_, t1.o, Nat.le_trans (Nat.le_of_eq t1.to.len.symm) (by omega)⟩, t2, t3⟩
  · have h0' : (x == 0) = false := beq_eq_false_iff_ne.2 (by omega)
    have h1' : (x == 1) = false := beq_eq_false_iff_ne.2 (by omega)
    have h2' : (x == 2) = false := beq_eq_false_iff_ne.2 (by omega)
    have h3' : (x == 3) = false := beq_eq_false_iff_ne.2 (by omega)
    obtain ⟨x0, x1, f0, f1, xl⟩ := HS.out.box
    obtain ⟨r0, r1, h0, h1, rl⟩ := HS.out.res
    go_wp2
    obtain ⟨t1, t2, t3⟩ := (HS.out).fin (.slice A n c) (.slice D m k)
    exact bodyPost_ret (v := .agg #[.slice A n c, .slice D m k]) (by simp [results, Tryd.results98, go_sem, r0, r1]) rfl
          ⟨_, _, rfl, ⟨_, t1.o, Nat.le_trans (Nat.le_of_eq t1.to.len.symm) (by omega)⟩, t2, t3⟩
end Go.Proofs.YtohodehmidbmlaaDoor
namespace Go.Proofs.YtohodehmidbmlaaDoor
open Go.RowKit
set_option maxRecDepth 100000
set_option linter.unusedSimpArgs false

theorem schemaT_size (d : SchemaD) : (schemaT d).size ≤ 1000 := by
  rcases h : schemaB d with _ | _
  · rw [schemaT_no h]; decide
  · obtain ⟨h1, h2, h3, h4⟩ := schemaB_parts h
    have k1 := joinB_size (l := d.attrs.map attrT) (sep := ⟨#[59]⟩) (M := 100) fun p hp => by
      obtain ⟨a, ha, rfl⟩ := List.mem_map.1 hp
      exact attrT_small a
    have k2 := joinB_size (l := d.classes) (sep := ⟨#[44]⟩) (M := 8) fun p hp => (h3 p hp).2
    have e1 : (⟨#[44]⟩ : ByteArray).size = 1 := rfl
    have e2 : (⟨#[124]⟩ : ByteArray).size = 1 := rfl
    have e3 : (⟨#[59]⟩ : ByteArray).size = 1 := rfl
    rw [schemaT_yes h, ByteArray.size_append, ByteArray.size_append]
    rw [List.length_map, e3] at k1
    rw [e1] at k2
    omega

set_option maxHeartbeats 2000000 in
theorem drawSchemaText_any (A : Option Addr) (n c : Nat) (l : List UInt8) (w : World) (hl : Bytes w A n l) (hn : n ≤ 1048576) :
    Calls Tryd.prog 77 #[.slice A n c] w fun e w' => ∃ x0 x1, e = .returned (.agg #[x0, x1]) ∧ (∃ d, SchemaM w' x0 x1 d) ∧ Below w.heap.size w w' := by
  have hal : Below w.heap.size w (w.alloc (.cells #[.slice none 0 0, .slice none 0 0] 35)) := (Below.refl _ _).alloc (Nat.le_refl _) _
  have hR := BoxW.new w (.slice none 0 0) (.slice none 0 0) 35
  have HL := hide (hl.keep hal)
  obtain ⟨W0, hW0⟩ : ∃ W, W = w.alloc (.cells #[.slice none 0 0, .slice none 0 0] 35) := ⟨_, rfl⟩
  have hz0 : W0.heap.size = w.heap.size + 1 := by rw [hW0]; simp
  rw [← hW0] at hal hR HL
  have HW := hide hW0
  clear hl hW0
  go_enter Tryd.func77, Tryd.ntmps77
  go_wp2_with (fail)
  rw [← HW.out]
  refine (l1New_any A n c l _ HL.out hn).mono ?_
  rintro e w1 ⟨b, rfl, hb, hC, hB⟩
  have hz1 := hB.size
  replace hR := hR.keep hB
  replace hal := bthen hal hB
  clear hB HL HW
  go_wp2_with (fail)
  refine (l5Draw_any b _ hC).mono ?_
  rintro e w2 ⟨x0, x1, rfl, ⟨d, hO, -⟩, -, ho⟩
  replace hR := hR.only ho (by omega)
  replace hal := Only.below hal (by omega) ho (fun j hj => by omega)
  have HO := hide hO
  obtain ⟨A1, n1, c1, D1, m1, k1, rr, rfl, rfl, -⟩ := hO
  clear ho hC
  obtain ⟨r0, r1, h0, h1, rl⟩ := hR
  go_wp2
  have hs := ((Only.refl (fun j => w.heap.size = j) w2).setCell (p := ⟨w.heap.size, 0, none⟩) rfl (.slice A1 n1 c1)).setCell (p := ⟨w.heap.size, 1, none⟩) rfl (.slice D1 m1 k1)
  exact bodyPost_ret (v := .agg #[.slice A1 n1 c1, .slice D1 m1 k1]) (by simp [results, Tryd.results77, go_sem, r0, r1]) rfl
    ⟨_, _, rfl, ⟨d, (HO.out.only hs (fun k hk => by omega)).m⟩, (hal.setCell (p := ⟨w.heap.size, 0, none⟩) (Nat.le_refl _) (.slice A1 n1 c1)).setCell (p := ⟨w.heap.size, 1, none⟩) (Nat.le_refl _) (.slice D1 m1 k1)⟩

def tailL : List ByteArray := [⟨#[44]⟩, ⟨#[124]⟩, ⟨#[59]⟩, ⟨#[120]⟩, ⟨#[44, 121, 101, 115]⟩]
theorem tailL_size : ∀ k, k < 5 → (tailL[k]?.getD ByteArray.empty).size ≤ 16 := by decide
def wholeL : List ByteArray := [⟨#[]⟩, ⟨#[124]⟩, ⟨#[97, 58, 49, 124, 120]⟩, ⟨#[97, 58, 49, 59, 97, 58, 50, 124, 120, 44, 121]⟩, ⟨#[59, 124, 120, 44, 121]⟩, ⟨#[97, 58, 49, 124, 120, 44, 121]⟩]
theorem wholeL_size : ∀ k, k < 6 → (wholeL[k]?.getD ByteArray.empty).size ≤ 16 := by decide

set_option maxHeartbeats 4000000 in
theorem drawSchemaOf_any (A : Option Addr) (n c : Nat) (l : List UInt8) (w : World) (hl : Bytes w A n l) (hn : n ≤ 1048576) :
    Calls Tryd.prog 32 #[.slice A n c] w fun e w' => ∃ s : ByteArray, e = .returned (.string s) ∧ s.size ≤ 1016 ∧ Below w.heap.size w w' := by
  have HL := hide hl
  clear hl
  go_enter Tryd.func32, Tryd.ntmps32
  go_wp2_with (fail)
  refine (l1New_any A n c l _ HL.out hn).mono ?_
  rintro e w1 ⟨b, rfl, hb, hC, hB⟩
  clear HL
  go_wp2_with (fail)
  refine (l5Draw_any b _ hC).mono ?_
  rintro e w2 ⟨x0, x1, rfl, ⟨d, hO, -⟩, hC2, ho⟩
  have hz1 := hB.size
  replace hB := Only.below hB (by omega) ho (fun j hj => by omega)
  clear ho hC
  go_wp2_with (fail)
  refine (specSchemaText_any x0 x1 d _ hO.m).mono ?_
  rintro e w3 ⟨rfl, hb3⟩
  have hts := schemaT_size d
  obtain ⟨s, hs⟩ : ∃ s, s = schemaT d := ⟨_, rfl⟩
  rw [← hs] at hts ⊢
  replace hB := bthen hB hb3
  have hC3 := hide (hC2.keep hb3)
  clear hb3 hC2 hO hs
  go_wp2_with (fail)
  refine (l1Below_any b 7 _ hC3.out (by omega)).mono ?_
  rintro e w4 ⟨x, rfl, hx0, -, -, hC4, ho⟩
  have hz3 := hB.size
  replace hB := Only.below hB hB.size ho (fun j hj => by omega)
  have HC4 := hide hC4
  clear ho hC4 hC3
  have hz4 := hB.size
  have hal := (Below.refl w4.heap.size w4).alloc (Nat.le_refl _)
  rcases (show x = 0 ∨ x = 1 ∨ 2 ≤ x by omega) with rfl | rfl | hx5
  · go_wp2_with (fail)
    refine (l1Pick_any b (some ⟨w4.heap.size, 0, none⟩) 5 5 tailL _ (HC4.out.keep (hal _)) (strs_lit w4 tailL _) (fun _ => lit_apart HC4.out) (by omega) (by omega)).mono ?_
    rintro e w5 ⟨k, hk, rfl, -, ho⟩
    have hB5 := Only.below (hB.alloc hz4 _) (hB.alloc hz4 _).size ho (fun j hj => by omega)
    have hus := tailL_size k hk
    generalize tailL[k]?.getD ByteArray.empty = u at *
    have z1 : ¬ 9223372036854775807 < s.size + u.size := by omega
    clear ho
    go_wp2
    go_ret
    exact ⟨s ++ u, rfl, by rw [ByteArray.size_append]; omega, hB5⟩
  · go_wp2_with (fail)
    refine (l1Pick_any b (some ⟨w4.heap.size, 0, none⟩) 6 6 wholeL _ (HC4.out.keep (hal _)) (strs_lit w4 wholeL _) (fun _ => lit_apart HC4.out) (by omega) (by omega)).mono ?_
    rintro e w5 ⟨k, hk, rfl, -, ho⟩
    have hB5 := Only.below (hB.alloc hz4 _) (hB.alloc hz4 _).size ho (fun j hj => by omega)
    have hus := wholeL_size k hk
    generalize wholeL[k]?.getD ByteArray.empty = u at *
    clear ho
    go_wp2
    go_ret
    exact ⟨u, rfl, by omega, hB5⟩
  · have h0' : (x == 0) = false := beq_eq_false_iff_ne.2 (by omega)
    have h1' : (x == 1) = false := beq_eq_false_iff_ne.2 (by omega)
    go_wp2
    go_ret
    exact ⟨s, rfl, by omega, hB⟩
end Go.Proofs.YtohodehmidbmlaaDoor
namespace Go.Proofs.YtohodehmidbmlaaDoor
open Go.RowKit
set_option maxRecDepth 100000

theorem AttrD.ext_ {a b : AttrD} (h1 : a.name = b.name) (h2 : a.cuts = b.cuts) (h3 : a.vals = b.vals) : a = b := by
  cases a; cases b; simp_all
instance : DecidableEq AttrD := fun a b =>
  if h : a.name = b.name ∧ a.cuts = b.cuts ∧ a.vals = b.vals then isTrue (AttrD.ext_ h.1 h.2.1 h.2.2) else isFalse fun e => h (by subst e; exact ⟨rfl, rfl, rfl⟩)
theorem attr_ne_name {a b : AttrD} (h : ¬ a.name = b.name) : decide (a = b) = false := by
  rw [decide_eq_false_iff_not]; rintro rfl; exact h rfl
theorem attr_ne_cuts {a b : AttrD} (h : ¬ a.cuts = b.cuts) : decide (a = b) = false := by
  rw [decide_eq_false_iff_not]; rintro rfl; exact h rfl
theorem attr_eq_vals {a b : AttrD} (h1 : a.name = b.name) (h2 : a.cuts = b.cuts) : decide (a = b) = decide (a.vals = b.vals) := by
  rw [decide_eq_decide]; exact ⟨fun h => by rw [h], fun h => AttrD.ext_ h1 h2 h⟩
def schemaSameB (d e : SchemaD) : Bool := decide (d.classes = e.classes) && decide (d.attrs = e.attrs)
set_option maxHeartbeats 1000000 in
theorem schemaSame1_any (A1 : Option Addr) (n1 c1 : Nat) (A2 : Option Addr) (n2 c2 : Nat) (B1 : Option Addr) (m1 d1 : Nat) (B2 : Option Addr) (m2 d2 : Nat) (a b : AttrD) (w : World) (h : AttrM w A1 n1 c1 A2 n2 c2 a) (h' : AttrM w B1 m1 d1 B2 m2 d2 b) :
    Calls Tryd.prog 130 #[.agg #[.string a.name, .slice A1 n1 c1, .slice A2 n2 c2], .agg #[.string b.name, .slice B1 m1 d1, .slice B2 m2 d2]] w fun e w' => e = .returned (.bool (decide (a = b))) ∧ Below w.heap.size w w' := by
  have hbox : Below w.heap.size w ((w.alloc (.cells #[.string a.name, .slice A1 n1 c1, .slice A2 n2 c2] 64)).alloc (.cells #[.string b.name, .slice B1 m1 d1, .slice B2 m2 d2] 64)) := ((Below.refl _ _).alloc (Nat.le_refl _) _).alloc (by simp) _
  have HV := hide (h.keep hbox)
  have HW := hide (h'.keep hbox)
  have hn1 := h.b1
  have hn2 := h.b2
  have hm1 := h'.b1
  have hm2 := h'.b2
  clear h h'
  by_cases hn : a.name = b.name
  · have HE := str_beq hn
    cases hq : decide (a.cuts = b.cuts)
    · have HQ := hide hq
      have hfin := hide (attr_ne_cuts (a := a) (b := b) (of_decide_eq_false hq))
      clear hn hq
      go_enter Tryd.func130, Tryd.ntmps130
      go_wp2_with (fail)
      refine (equalInts_any _ _ _ _ _ _ a.cuts b.cuts _ HV.out.cuts HW.out.cuts (by omega) (by omega)).mono ?_
      rintro e w' ⟨rfl, q, rfl⟩
      rw [HQ.out]
      go_wp2
      go_ret
      exact ⟨ret_bool hfin.out.symm, below_drewN hbox _⟩
    · have HQ := hide hq
      have hfin := hide (attr_eq_vals hn (of_decide_eq_true hq))
      clear hn hq
      go_enter Tryd.func130, Tryd.ntmps130
      go_wp2_with (fail)
      refine (equalInts_any _ _ _ _ _ _ a.cuts b.cuts _ HV.out.cuts HW.out.cuts (by omega) (by omega)).mono ?_
      rintro e w' ⟨rfl, q, rfl⟩
      rw [HQ.out]
      go_wp2_with (fail)
      refine (equalStrs_any _ _ _ _ _ _ a.vals b.vals _ (HV.out.vals.keep (below_drewN (Below.refl _ _) _)) (HW.out.vals.keep (below_drewN (Below.refl _ _) _)) (by omega) (by omega)).mono ?_
      rintro e w' ⟨rfl, q', rfl⟩
      go_wp2
      go_ret
      exact ⟨ret_bool hfin.out.symm, below_drewN hbox _⟩
  · have HE := str_beq_no hn
    have hfin := hide (attr_ne_name hn)
    clear hn
    go_enter Tryd.func130, Tryd.ntmps130
    go_wp2
    go_ret
    exact ⟨ret_bool hfin.out.symm, hbox⟩

set_option maxHeartbeats 2000000 in
theorem eqFuncAttrs_any (A B : Option Addr) (n m c d : Nat) (l r : List AttrD) (w : World) (hl : AttrsM w A n l) (hr : AttrsM w B m r) (hn : n ≤ 2097152) (hm : m ≤ 2097152) :
    Calls Tryd.prog 129 #[.slice A n c, .slice B m d, .func (.func 130) #[] #[]] w fun e w' => e = .returned (.bool (decide (l = r))) ∧ Below w.heap.size w w' := by
  have hcf := Tryd.call130
  have HL := hide hl
  have HR := hide hr
  clear hl hr
  by_cases hnm : n = m
  · subst hnm
    go_enter Tryd.func129, Tryd.ntmps129
    go_wp2
    go_loopw [17] (fun i wr => ∃ k : Nat, k ≤ n ∧ i = .int .i64 k ∧ l.take k = r.take k ∧ Below w.heap.size w wr) (fun i _ => n - (intOf i).toNat)
    case atStart => exact ⟨0, Nat.zero_le _, rfl, by simp, Below.refl _ _⟩
    case round =>
      obtain ⟨k, hk, rfl, htk, hbel⟩ := hrel
      have HT := hide htk
      clear htk
      by_cases hlt : k < n
      · obtain ⟨a1, A1, n1, c1, A2, n2, c2, rfl, hb1, g0, g1, g2, hI1⟩ := (HL.out.keep hbel).at_ hlt
        obtain ⟨a2, B1, m1, d1, B2, m2, d2, rfl, hb2, j0, j1, j2, hI2⟩ := (HR.out.keep hbel).at_ hlt
        have P2 : (a2.add (k * 3)).block < wr.heap.size := by rw [block_of_add]; exact hb2
        have i0 : (wr.alloc (.cells #[.string (l[k]?.getD default).name, .slice A1 n1 c1, .slice A2 n2 c2] 64)).cell? (a2.add (k * 3)) = some (.string (r[k]?.getD default).name) := (World.cell?_alloc_lt _ _ _ P2).trans j0
        have i1 : (wr.alloc (.cells #[.string (l[k]?.getD default).name, .slice A1 n1 c1, .slice A2 n2 c2] 64)).cell? ⟨(a2.add (k * 3)).block, (a2.add (k * 3)).off + 1, none⟩ = some (.slice B1 m1 d1) := (World.cell?_alloc_lt _ _ ⟨(a2.add (k * 3)).block, (a2.add (k * 3)).off + 1, none⟩ P2).trans j1
        have i2 : (wr.alloc (.cells #[.string (l[k]?.getD default).name, .slice A1 n1 c1, .slice A2 n2 c2] 64)).cell? ⟨(a2.add (k * 3)).block, (a2.add (k * 3)).off + 2, none⟩ = some (.slice B2 m2 d2) := (World.cell?_alloc_lt _ _ ⟨(a2.add (k * 3)).block, (a2.add (k * 3)).off + 2, none⟩ P2).trans j2
        have hbox : Below wr.heap.size wr ((wr.alloc (.cells #[.string (l[k]?.getD default).name, .slice A1 n1 c1, .slice A2 n2 c2] 64)).alloc (.cells #[.string (r[k]?.getD default).name, .slice B1 m1 d1, .slice B2 m2 d2] 64)) := ((Below.refl _ _).alloc (Nat.le_refl _) _).alloc (by simp) _
        have H1 := hide (hI1.keep hbox)
        have H2 := hide (hI2.keep hbox)
        have hbel2 := bthen hbel hbox
        clear hI1 hI2 hb1 hb2 j0 j1 j2 hbox P2
        by_cases he : l[k]?.getD default = r[k]?.getD default
        · have HS := hide (take_eq_step default (by have := HL.out.1; omega) (by have := HR.out.1; omega) HT.out he)
          have HE := hide (show decide (l[k]?.getD default = r[k]?.getD default) = true by simpa using he)
          clear he
          go_wp2_with (fail)
          refine (schemaSame1_any _ _ _ _ _ _ _ _ _ _ _ _ (l[k]?.getD default) (r[k]?.getD default) _ H1.out H2.out).mono ?_
          rintro e w2 ⟨rfl, hb⟩
          rw [HE.out]
          have hbel3 := bthen hbel2 hb
          clear hb g0 g1 g2 i0 i1 i2 hbel2
          go_wp2
          go_roundw
          case rel => exact ⟨k + 1, by omega, by go_num, HS.out, hbel3⟩
          case measure => simp [intOf]; omega
        · have HS := hide (take_ne_step default he)
          have HE := hide (show decide (l[k]?.getD default = r[k]?.getD default) = false by simpa using he)
          clear he
          go_wp2_with (fail)
          refine (schemaSame1_any _ _ _ _ _ _ _ _ _ _ _ _ (l[k]?.getD default) (r[k]?.getD default) _ H1.out H2.out).mono ?_
          rintro e w2 ⟨rfl, hb⟩
          rw [HE.out]
          have hbel3 := bthen hbel2 hb
          clear hb g0 g1 g2 i0 i1 i2 hbel2
          go_wp2
          go_ret
          exact ⟨ret_bool (by simp [HS.out]), hbel3⟩
      · have HS := hide (show l = r by
          have h := HT.out
          rwa [List.take_of_length_le (by have := HL.out.1; omega), List.take_of_length_le (by have := HR.out.1; omega)] at h)
        go_wp2
        go_ret
        exact ⟨ret_bool (by simp [HS.out]), hbel⟩
  · have HS := hide (show ¬ l = r by
      rintro rfl
      exact hnm (by have := HL.out.1; have := HR.out.1; omega))
    have hne : ((n : Int) != (m : Int)) = true := by rw [bne_iff_ne]; omega
    clear hnm
    go_enter Tryd.func129, Tryd.ntmps129
    go_wp2
    go_ret
    exact ⟨ret_bool (by simp [HS.out]), Below.refl _ _⟩

set_option maxHeartbeats 1000000 in
theorem implSchemaSame_any (x0 x1 y0 y1 : Value) (d e : SchemaD) (w : World) (h : SchemaM w x0 x1 d) (h' : SchemaM w y0 y1 e) :
    Calls Tryd.prog 79 #[.agg #[x0, x1], .agg #[y0, y1]] w fun r w' => r = .returned (.bool (schemaSameB d e)) ∧ Below w.heap.size w w' := by
  obtain ⟨A, n, c, D, m, k, rfl, rfl, hl, hn, hr, -, hm, -⟩ := h
  obtain ⟨A', n', c', D', m', k', rfl, rfl, hl', hn', hr', -, hm', -⟩ := h'
  have hbox : Below w.heap.size w ((w.alloc (.cells #[.slice A n c, .slice D m k] 35)).alloc (.cells #[.slice A' n' c', .slice D' m' k'] 35)) := ((Below.refl _ _).alloc (Nat.le_refl _) _).alloc (by simp) _
  have HL := hide (hl.keep hbox)
  have HL' := hide (hl'.keep hbox)
  have HR := hide (hr.keep hbox)
  have HR' := hide (hr'.keep hbox)
  clear hl hr hl' hr'
  cases hq : decide (d.classes = e.classes)
  · have hfin := hide (show schemaSameB d e = false by rw [schemaSameB, hq]; rfl)
    have HQ := hide hq
    clear hq
    go_enter Tryd.func79, Tryd.ntmps79
    go_wp2_with (fail)
    refine (equalStrs_any D D' m m' k k' d.classes e.classes _ HR.out HR'.out (by omega) (by omega)).mono ?_
    rintro e w' ⟨rfl, q, rfl⟩
    rw [HQ.out]
    go_wp2
    go_ret
    exact ⟨ret_bool hfin.out.symm, below_drewN hbox _⟩
  · have hfin := hide (show schemaSameB d e = decide (d.attrs = e.attrs) by rw [schemaSameB, hq]; rfl)
    have HQ := hide hq
    clear hq
    go_enter Tryd.func79, Tryd.ntmps79
    go_wp2_with (fail)
    refine (equalStrs_any D D' m m' k k' d.classes e.classes _ HR.out HR'.out (by omega) (by omega)).mono ?_
    rintro e w' ⟨rfl, q, rfl⟩
    rw [HQ.out]
    go_wp2_with (fail)
    refine (eqFuncAttrs_any A A' n n' c c' _ _ _ (HL.out.keep (below_drewN (Below.refl _ _) _)) (HL'.out.keep (below_drewN (Below.refl _ _) _)) (by omega) (by omega)).mono ?_
    rintro e w2 ⟨rfl, hb⟩
    have hB := bthen (below_drewN hbox q) hb
    go_wp2
    go_ret
    exact ⟨ret_bool hfin.out.symm, hB⟩
end Go.Proofs.YtohodehmidbmlaaDoor
namespace Go.Proofs.YtohodehmidbmlaaDoor
open Go.RowKit
set_option maxRecDepth 100000

set_option maxHeartbeats 4000000 in
theorem specSchemaSame_any (x0 x1 y0 y1 : Value) (d e : SchemaD) (w : World) (h : SchemaM w x0 x1 d) (h' : SchemaM w y0 y1 e) :
    Calls Tryd.prog 78 #[.agg #[x0, x1], .agg #[y0, y1]] w fun r w' => r = .returned (.bool (schemaSameB d e)) ∧ Below w.heap.size w w' := by
  obtain ⟨A, n, c, D, m, k, rfl, rfl, hl, hn, hr, -, hm, -⟩ := h
  obtain ⟨A', n', c', D', m', k', rfl, rfl, hl', hn', hr', -, hm', -⟩ := h'
  have hbox : Below w.heap.size w ((w.alloc (.cells #[.slice A n c, .slice D m k] 35)).alloc (.cells #[.slice A' n' c', .slice D' m' k'] 35)) := ((Below.refl _ _).alloc (Nat.le_refl _) _).alloc (by simp) _
  obtain ⟨W, hW⟩ : ∃ W, W = ((w.alloc (.cells #[.slice A n c, .slice D m k] 35)).alloc (.cells #[.slice A' n' c', .slice D' m' k'] 35)) := ⟨_, rfl⟩
  have hX := (Box2.new w (.slice A n c) (.slice D m k) 35).keep (Below.alloc (Below.refl _ _) (Nat.le_refl _) (.cells #[.slice A' n' c', .slice D' m' k'] 35))
  have hY := Box2.new (w.alloc (.cells #[.slice A n c, .slice D m k] 35)) (.slice A' n' c') (.slice D' m' k') 35
  have hz : (w.alloc (.cells #[.slice A n c, .slice D m k] 35)).heap.size = w.heap.size + 1 := by simp
  rw [hz] at hY
  clear hz
  rw [← hW] at hX hY
  have HL := hide (hl.keep hbox)
  have HL' := hide (hl'.keep hbox)
  have HR := hide (hr.keep hbox)
  have HR' := hide (hr'.keep hbox)
  rw [← hW] at HL HL' HR HR' hbox
  have HW := hide hW
  clear hl hr hl' hr' hW
  by_cases hnn : n = n'
  · subst hnn
    cases hq : decide (d.classes = e.classes)
    · have hfin := hide (show schemaSameB d e = false by rw [schemaSameB, hq]; rfl)
      have HQ := hide hq
      clear hq
      go_enter Tryd.func78, Tryd.ntmps78
      go_wp2_with (fail)
      rw [← HW.out]
      refine (sameTexts_any D D' m m' k k' d.classes e.classes _ HR.out HR'.out (by omega) (by omega)).mono ?_
      rintro e w' ⟨rfl, q, rfl⟩
      rw [HQ.out]
      go_wp2
      go_ret
      exact ⟨ret_bool hfin.out.symm, below_drewN hbox _⟩
    · have HQ := hide hq
      have hfin := hide (show schemaSameB d e = decide (d.attrs = e.attrs) by rw [schemaSameB, hq]; rfl)
      clear hq
      obtain ⟨k0, k1, k2⟩ := hX
      obtain ⟨j0, j1, j2⟩ := hY
      go_enter Tryd.func78, Tryd.ntmps78
      go_wp2_with (fail)
      rw [← HW.out]
      refine (sameTexts_any D D' m m' k k' d.classes e.classes _ HR.out HR'.out (by omega) (by omega)).mono ?_
      rintro e w' ⟨rfl, q, rfl⟩
      rw [HQ.out]
      go_wp2
      go_loopw [5] (fun i wr => ∃ K : Nat, K ≤ n ∧ i = .int .i64 K ∧ d.attrs.take K = e.attrs.take K ∧ ∃ q, wr = W.drewN q) (fun i _ => n - (intOf i).toNat)
      case atStart => exact ⟨0, Nat.zero_le _, rfl, by simp, q, rfl⟩
      case round =>
        obtain ⟨K, hk, rfl, htk, q, rfl⟩ := hrel
        have HT := hide htk
        clear htk
        by_cases hlt : K < n
        · obtain ⟨a1, A1, n1, c1, A2, n2, c2, rfl, _, g0, g1, g2, hI1⟩ := (HL.out).at_ hlt
          obtain ⟨a2, B1, m1, d1, B2, m2, d2, rfl, _, f0, f1, f2, hI2⟩ := (HL'.out).at_ hlt
          have hn1 := hI1.b1
          have hn2 := hI1.b2
          have hm1 := hI2.b1
          have hm2 := hI2.b2
          have H1 := hide hI1
          have H2 := hide hI2
          clear hI1 hI2
          have hi0 : (0 : Int) ≤ K := by omega
          have hi1 : (K : Int) < n := by omega
          obtain ⟨a, ha⟩ : ∃ a, a = d.attrs[K]?.getD default := ⟨_, rfl⟩
          obtain ⟨b, hb⟩ : ∃ b, b = e.attrs[K]?.getD default := ⟨_, rfl⟩
          rw [← ha] at g0 H1
          rw [← hb] at f0 H2
          by_cases he : a = b
          · have HS := hide (take_eq_step default (by have := HL.out.1; omega) (by have := HL'.out.1; omega) HT.out (ha ▸ hb ▸ he))
            have hN := str_bne (congrArg AttrD.name he)
            have hN2 := str_beq (congrArg AttrD.name he)
            have hC := hide (show decide (a.cuts = b.cuts) = true by rw [he]; simp)
            have hV := hide (show decide (a.vals = b.vals) = true by rw [he]; simp)
            clear he ha hb
            go_wp2
            go_quiet (first
              | (go_at_call 123; exact quiet_add ((sameInts_any A1 B1 n1 m1 c1 d1 _ _ _ (H1.out.cuts.keep (below_drewN (Below.refl _ _) _)) (H2.out.cuts.keep (below_drewN (Below.refl _ _) _)) (by omega) (by omega)).mono fun _ _ h => ⟨h.1.trans (ret_bool hC.out), h.2⟩))
              | (go_at_call 127; exact quiet_add ((sameTexts_any A2 B2 n2 m2 c2 d2 _ _ _ (H1.out.vals.keep (below_drewN (Below.refl _ _) _)) (H2.out.vals.keep (below_drewN (Below.refl _ _) _)) (by omega) (by omega)).mono fun _ _ h => ⟨h.1.trans (ret_bool hV.out), h.2⟩)))
            go_wp2
            go_roundw
            case rel => exact ⟨K + 1, by omega, by go_num, HS.out, _, rfl⟩
            case measure => simp [intOf]; omega
          · have HS := hide (show ¬ d.attrs = e.attrs from take_ne_step default (k := K) (fun h => he (by rw [ha, hb]; exact h)))
            clear ha hb
            by_cases hN : a.name = b.name
            · have hN1 := str_bne hN
              have hN2 := str_beq hN
              by_cases hC : a.cuts = b.cuts
              · have hV : ¬ a.vals = b.vals := fun h => he (AttrD.ext_ hN hC h)
                have HC := hide (show decide (a.cuts = b.cuts) = true by simpa using hC)
                have HV := hide (show decide (a.vals = b.vals) = false by simpa using hV)
                clear he hN hC hV
                go_wp2
                go_quiet (first
                  | (go_at_call 123; exact quiet_add ((sameInts_any A1 B1 n1 m1 c1 d1 _ _ _ (H1.out.cuts.keep (below_drewN (Below.refl _ _) _)) (H2.out.cuts.keep (below_drewN (Below.refl _ _) _)) (by omega) (by omega)).mono fun _ _ h => ⟨h.1.trans (ret_bool HC.out), h.2⟩))
                  | (go_at_call 127; exact quiet_add ((sameTexts_any A2 B2 n2 m2 c2 d2 _ _ _ (H1.out.vals.keep (below_drewN (Below.refl _ _) _)) (H2.out.vals.keep (below_drewN (Below.refl _ _) _)) (by omega) (by omega)).mono fun _ _ h => ⟨h.1.trans (ret_bool HV.out), h.2⟩)))
                go_wp2
                go_ret
                exact ⟨ret_bool (by rw [hfin.out]; simp [HS.out]), below_drewN (below_drewN hbox _) _⟩
              · have HC := hide (show decide (a.cuts = b.cuts) = false by simpa using hC)
                clear he hN hC
                go_wp2
                go_quiet ((go_at_call 123; exact quiet_add ((sameInts_any A1 B1 n1 m1 c1 d1 _ _ _ (H1.out.cuts.keep (below_drewN (Below.refl _ _) _)) (H2.out.cuts.keep (below_drewN (Below.refl _ _) _)) (by omega) (by omega)).mono fun _ _ h => ⟨h.1.trans (ret_bool HC.out), h.2⟩)))
                go_wp2
                go_ret
                exact ⟨ret_bool (by rw [hfin.out]; simp [HS.out]), below_drewN (below_drewN hbox _) _⟩
            · have hN1 := str_bne_no hN
              have hN2 := str_beq_no hN
              clear he hN
              go_wp2
              go_quiet (fail)
              go_wp2
              go_ret
              exact ⟨ret_bool (by rw [hfin.out]; simp [HS.out]), below_drewN (below_drewN hbox _) _⟩
        · have HS := hide (show d.attrs = e.attrs by
            have h := HT.out
            rwa [List.take_of_length_le (by have := HL.out.1; omega), List.take_of_length_le (by have := HL'.out.1; omega)] at h)
          go_wp2
          go_ret
          exact ⟨ret_bool (by rw [hfin.out]; simp [HS.out]), below_drewN hbox _⟩
  · have HS := hide (show ¬ d.attrs = e.attrs by
      intro h
      have h1 := HL.out.1
      have h2 := HL'.out.1
      rw [h] at h1
      omega)
    have hne : ((n : Int) != (n' : Int)) = true := by rw [bne_iff_ne]; omega
    clear hnn
    go_enter Tryd.func78, Tryd.ntmps78
    go_wp2
    rw [← HW.out]
    go_ret
    exact ⟨ret_bool (by simp [schemaSameB, HS.out]), hbox⟩
end Go.Proofs.YtohodehmidbmlaaDoor
namespace Go.Proofs.YtohodehmidbmlaaDoor
open Go.RowKit
set_option maxRecDepth 100000

theorem big_is (A : Option Addr) (n c : Nat) (w : World) :
    Calls Tryd.prog 31 #[.slice A n c] w fun e w' => e = .returned (.bool (decide (1048576 < (n : Int)))) ∧ w' = w := by
  go_enter Tryd.func31, Tryd.ntmps31
  go_wp2
  go_ret
  exact ⟨rfl, rfl⟩
/-- A schema that was read. -/
def ReadS (d : SchemaD) (ok : Bool) (w : World) (e : Ending) (w' : World) : Prop := ∃ x0 x1, e = .returned (.tuple #[.agg #[x0, x1], .bool ok]) ∧ SchemaO w.heap.size w'.heap.size w' x0 x1 d ∧ Below w.heap.size w w'

set_option maxHeartbeats 8000000 in
theorem fnSchemaRead_walk (w : World) (A : Option Addr) (n c : Nat) (l : List UInt8) (_ : n ≤ maxLen) (hl : Bytes w A n l) (hd : DoorS w) :
    Calls Tryd.prog 4 #[.slice A n c] w fun e w' => e = .returned (.bool true) ∧ Below w.heap.size w w' := by
  have HL := hide hl
  have HD := hide hd
  clear hl hd
  by_cases hbig : (1048576 : Int) < n
  · have hd : decide (1048576 < (n : Int)) = true := decide_eq_true hbig
    go_enter Tryd.func4, Tryd.ntmps4
    go_wp2_with (fail)
    refine (big_is A n c _).mono ?_
    rintro e w1 ⟨rfl, rfl⟩
    rw [hd]
    go_wp2
    go_ret
    exact ⟨rfl, Below.refl _ _⟩
  have hd : decide (1048576 < (n : Int)) = false := decide_eq_false hbig
  have hn2 : n ≤ 1048576 := by omega
  go_enter Tryd.func4, Tryd.ntmps4
  go_wp2_with (fail)
  refine (big_is A n c _).mono ?_
  rintro e w1 ⟨rfl, rfl⟩
  rw [hd]
  clear hd hbig
  go_wp2_with (fail)
  refine (drawSchemaOf_any A n c l _ HL.out hn2).mono ?_
  rintro e w2 ⟨s, rfl, hs, hB⟩
  clear HL
  obtain ⟨d, hdd⟩ : ∃ d, d = (schemaOf s).getD schemaZ := ⟨_, rfl⟩
  obtain ⟨ok, hok⟩ : ∃ ok, ok = (schemaOf s).isSome := ⟨_, rfl⟩
  have hS := hide (show ∀ W, Calls Tryd.prog 34 #[.string s] W (ReadS d ok W) from fun W => by
    have := specSchemaOf_any s W (by omega)
    unfold SchemaPost at this
    rw [← hdd, ← hok] at this
    exact this)
  have hI := hide (show ∀ W, DoorS W → Calls Tryd.prog 33 #[.string s] W (ReadS d ok W) from fun W hW => by
    have := implSchemaOf_any s W (by omega) hW
    unfold SchemaPost at this
    rw [← hdd, ← hok] at this
    exact this)
  have HF0 := hide (show ok = false → schemaT d = ⟨#[]⟩ from fun h => by
    rcases hso : schemaOf s with _ | d9
    · rw [hdd, hso]; exact schemaT_no (by decide)
    · rw [hok, hso] at h; cases h)
  have HF1 := hide (show ok = true → schemaT d = s ∧ schemaB d = true from fun h => by
    rcases hso : schemaOf s with _ | d9
    · rw [hok, hso] at h; cases h
    · rw [hdd, hso]; exact ⟨(schemaOf_some hso).2, (schemaOf_some hso).1⟩)
  clear hdd hok hs
  go_wp2_with (fail)
  refine (hI.out _ (HD.out.keep hB)).mono ?_
  rintro e w3 ⟨x0, x1, rfl, ho, hb⟩
  replace hB := bthen hB hb
  clear hb
  obtain ⟨g0_, g1_⟩ := ho.m.one
  have st0_hX := fun (W : World) (a : Addr) (m : Mode) => run_store_of (P := Tryd.prog) W a m g0_
  have st1_hX := fun (W : World) (a : Addr) (m : Mode) => run_store_of (P := Tryd.prog) W a m g1_
  clear g0_ g1_
  have hal : Below w3.heap.size w3 (w3.alloc (.cells #[x0, x1] 35)) := (Below.refl _ _).alloc (Nat.le_refl _) _
  have hX := Box2.new w3 x0 x1 35
  have HM := hide ho.m
  clear ho
  replace hB := bthen hB hal
  replace HM := hide (HM.out.keep hal)
  clear hal
  go_wp2_with (fail)
  refine (hS.out _).mono ?_
  rintro e w4 ⟨y0, y1, rfl, ho, hb⟩
  clear st0_hX st1_hX
  replace hB := bthen hB hb
  replace hX := hX.keep hb
  replace HM := hide (HM.out.keep hb)
  clear hb
  obtain ⟨g0_, g1_⟩ := ho.m.one
  have st0_hY := fun (W : World) (a : Addr) (m : Mode) => run_store_of (P := Tryd.prog) W a m g0_
  have st1_hY := fun (W : World) (a : Addr) (m : Mode) => run_store_of (P := Tryd.prog) W a m g1_
  clear g0_ g1_
  have hal : Below w4.heap.size w4 (w4.alloc (.cells #[y0, y1] 35)) := (Below.refl _ _).alloc (Nat.le_refl _) _
  have hY := Box2.new w4 y0 y1 35
  clear ho hY
  replace hB := bthen hB hal
  replace hX := hX.keep hal
  replace HM := hide (HM.out.keep hal)
  clear hal
  have qe : (true == true) = true := rfl
  have q1 : (s.toList == s.toList) = true := str_beq rfl
  have q2 : ((⟨#[]⟩ : ByteArray).toList == (⟨#[]⟩ : ByteArray).toList) = true := str_beq rfl
  cases ok
  · obtain ⟨k00, k01, k02⟩ := id hX
    go_wp2_with (fail)
    refine (implSchemaText_any x0 x1 d _ HM.out (HD.out.keep hB).door.tab).mono ?_
    rintro e w5 ⟨rfl, hb⟩
    clear k00 k01 k02
    replace hB := bthen hB hb
    replace hX := hX.keep hb
    replace HM := hide (HM.out.keep hb)
    clear hb
    rw [HF0.out (by trivial)]
    go_wp2
    go_ret
    exact ⟨rfl, hB⟩
  · obtain ⟨k00, k01, k02⟩ := id hX
    go_wp2_with (fail)
    refine (implSchemaText_any x0 x1 d _ HM.out (HD.out.keep hB).door.tab).mono ?_
    rintro e w5 ⟨rfl, hb⟩
    clear k00 k01 k02
    replace hB := bthen hB hb
    replace hX := hX.keep hb
    replace HM := hide (HM.out.keep hb)
    clear hb
    rw [(HF1.out (by trivial)).1]
    obtain ⟨k00, k01, k02⟩ := id hX
    go_wp2_with (fail)
    refine (implSchemaOk_any x0 x1 d _ HM.out).mono ?_
    rintro e w6 ⟨rfl, hb⟩
    rw [(HF1.out (by trivial)).2]
    clear k00 k01 k02
    replace hB := bthen hB hb
    replace hX := hX.keep hb
    replace HM := hide (HM.out.keep hb)
    clear hb
    go_wp2
    go_ret
    exact ⟨rfl, hB⟩
end Go.Proofs.YtohodehmidbmlaaDoor
namespace Go.Proofs.YtohodehmidbmlaaDoor
set_option maxRecDepth 100000

theorem words_cons (c : Char) (hc : c ≠ Char.ofNat 32) (r : List Char) (w : List Char) (ws : List (List Char)) (h : wordsSigns r = w :: ws) : wordsSigns (c :: r) = (c :: w) :: ws := by
  unfold wordsSigns
  split
  · rename_i e; simp at e
  · rename_i r e
    simp only [List.cons.injEq] at e
    exact absurd e.1 hc
  · rename_i c r _ e
    simp only [List.cons.injEq] at e
    obtain ⟨rfl, rfl⟩ := e
    rw [h]
theorem words_behind : ∀ (h : List Nat) (t : List Nat), (∀ x ∈ h, Char.ofNat x ≠ Char.ofNat 32) → wordsSigns ((h ++ 32 :: t).map Char.ofNat) = h.map Char.ofNat :: wordsSigns (t.map Char.ofNat)
  | [], t, _ => rfl
  | x :: h, t, hx => words_cons _ (hx x (by simp)) _ _ _ (words_behind h t fun y hy => hx y (by simp [hy]))

def headA : List Nat := [104, 97, 114, 110, 101, 115, 115]
def headB : List Nat := [98, 48, 102, 101, 55, 101, 55, 55, 100, 50, 102, 98, 56, 102, 50, 49, 55, 53, 56, 55, 99, 97, 50, 100, 97, 98, 101, 102, 100, 98, 100, 52, 55, 101, 54, 99, 56, 52, 55, 100, 101, 97, 56, 54, 98, 97, 99, 51, 53, 57, 57, 56, 98, 100, 56, 99, 54, 52, 51, 54, 99, 99, 98, 101]
def headC : List Nat := [99, 117, 116]
def headR : List Nat := [97, 116, 32, 108, 111, 111, 112, 46, 101, 120, 97, 109, 112, 108, 101, 47, 103, 48, 48, 52, 55, 55, 47, 108, 97, 119, 115, 46, 70, 110, 69, 120, 97, 99, 116, 82, 111, 119, 79, 102, 32, 108, 111, 111, 112, 46, 101, 120, 97, 109, 112, 108, 101, 47, 103, 48, 48, 52, 55, 55, 47, 108, 97, 119, 115, 46, 70, 110, 83, 99, 104, 101, 109, 97, 82, 101, 97, 100, 32, 108, 111, 111, 112, 46, 101, 120, 97, 109, 112, 108, 101, 47, 103, 48, 48, 52, 55, 55, 47, 108, 97, 119, 115, 46, 70, 110, 69, 120, 97, 99, 116, 83, 99, 104, 101, 109, 97, 79, 102, 32, 108, 111, 111, 112, 46, 101, 120, 97, 109, 112, 108, 101, 47, 103, 48, 48, 52, 55, 55, 47, 108, 97, 119, 115, 46, 70, 110, 69, 120, 97, 99, 116, 68, 105, 103, 105, 116, 115, 32, 108, 111, 111, 112, 46, 101, 120, 97, 109, 112, 108, 101, 47, 103, 48, 48, 52, 55, 55, 47, 108, 97, 119, 115, 46, 70, 110, 69, 120, 97, 99, 116, 70, 114, 97, 99, 84, 101, 120, 116, 32, 108, 111, 111, 112, 46, 101, 120, 97, 109, 112, 108, 101, 47, 103, 48, 48, 52, 55, 55, 47, 108, 97, 119, 115, 46, 70, 110, 69, 120, 97, 99, 116, 67, 101, 108, 108, 84, 101, 120, 116, 32, 108, 111, 111, 112, 46, 101, 120, 97, 109, 112, 108, 101, 47, 103, 48, 48, 52, 55, 55, 47, 108, 97, 119, 115, 46, 70, 110, 69, 120, 97, 99, 116, 78, 117, 109, 98, 101, 114, 32, 108, 111, 111, 112, 46, 101, 120, 97, 109, 112, 108, 101, 47, 103, 48, 48, 52, 55, 55, 47, 108, 97, 119, 115, 46, 70, 110, 69, 120, 97, 99, 116, 65, 116, 116, 114, 84, 101, 120, 116, 32, 108, 111, 111, 112, 46, 101, 120, 97, 109, 112, 108, 101, 47, 103, 48, 48, 52, 55, 55, 47, 108, 97, 119, 115, 46, 70, 110, 69, 120, 97, 99, 116, 83, 105, 103, 110, 101, 100, 32, 108, 111, 111, 112, 46, 101, 120, 97, 109, 112, 108, 101, 47, 103, 48, 48, 52, 55, 55, 47, 108, 97, 119, 115, 46, 70, 110, 78, 117, 109, 98, 101, 114, 115, 32, 108, 111, 111, 112, 46, 101, 120, 97, 109, 112, 108, 101, 47, 103, 48, 48, 52, 55, 55, 47, 108, 97, 119, 115, 46, 70, 110, 69, 120, 97, 99, 116, 83, 99, 104, 101, 109, 97, 84, 101, 120, 116, 32, 108, 111, 111, 112, 46, 101, 120, 97, 109, 112, 108, 101, 47, 103, 48, 48, 52, 55, 55, 47, 108, 97, 119, 115, 46, 70, 110, 69, 120, 97, 99, 116, 69, 120, 84, 101, 120, 116, 32, 108, 111, 111, 112, 46, 101, 120, 97, 109, 112, 108, 101, 47, 103, 48, 48, 52, 55, 55, 47, 108, 97, 119, 115, 46, 70, 110, 82, 111, 119, 84, 101, 120, 116, 32, 108, 111, 111, 112, 46, 101, 120, 97, 109, 112, 108, 101, 47, 103, 48, 48, 52, 55, 55, 47, 108, 97, 119, 115, 46, 70, 110, 82, 111, 119, 84, 111, 116, 97, 108, 32, 108, 111, 111, 112, 46, 101, 120, 97, 109, 112, 108, 101, 47, 103, 48, 48, 52, 55, 55, 47, 108, 97, 119, 115, 46, 70, 110, 69, 120, 97, 99, 116, 65, 116, 116, 114, 79, 102, 32, 108, 111, 111, 112, 46, 101, 120, 97, 109, 112, 108, 101, 47, 103, 48, 48, 52, 55, 55, 47, 108, 97, 119, 115, 46, 70, 110, 83, 99, 104, 101, 109, 97, 84, 101, 120, 116]
theorem head_eq : Tryd.prog.initOrder = String.ofList ((headA ++ 32 :: (headB ++ 32 :: (headC ++ 32 :: headR))).map Char.ofNat) := by kernel_rfl
theorem head_words : wordsSigns Tryd.prog.initOrder.toList = headA.map Char.ofNat :: headB.map Char.ofNat :: headC.map Char.ofNat :: wordsSigns (headR.map Char.ofNat) := by
  rw [head_eq, String.toList_ofList, words_behind _ _ (by decide), words_behind _ _ (by decide), words_behind _ _ (by decide)]
theorem behind_main (rest : List (List Char)) : behindMainWord (headA.map Char.ofNat :: headB.map Char.ofNat :: headC.map Char.ofNat :: rest) = headC.map Char.ofNat :: rest := by kernel_rfl
theorem strip_none (rest : List (List Char)) : stripLifts liftWords (headC.map Char.ofNat :: rest) = ([], headC.map Char.ofNat :: rest) := by kernel_rfl
theorem not_gc : (headC.map Char.ofNat == "gc".toList) = false := by kernel_rfl
theorem not_spec : (headC.map Char.ofNat == "spec".toList) = false := by kernel_rfl
theorem not_carried : (headC.map Char.ofNat == "carried".toList) = false := by kernel_rfl
theorem is_cut : (headC.map Char.ofNat == "cut".toList) = true := by kernel_rfl
section
variable {P : Program} {rest : List (List Char)} (h : wordsSigns P.initOrder.toList = headA.map Char.ofNat :: headB.map Char.ofNat :: headC.map Char.ofNat :: rest)
include h
theorem make_of : P.make = some .cut := by
  unfold Program.make
  rw [h, behind_main]
  simp only [not_gc, not_spec, is_cut, Bool.or_self, Bool.false_eq_true, if_false, Bool.true_or, if_true]
theorem headLifts_of : P.headLifts = [] := by
  unfold Program.headLifts
  rw [h, behind_main, strip_none]
  simp only [ite_self]
theorem liftsFinal_of : P.liftsFinal = false := by
  unfold Program.liftsFinal
  rw [headLifts_of h, h, behind_main]
  simp only [List.head?_cons, List.contains_nil, Bool.or_false, Option.some_beq_some, not_carried, Bool.false_and]
theorem mayEnter_of (h1 : P.laysLater = false) (h2 : P.bearsReflect = false) (h3 : P.doorFits [] = true) : P.mayEnter = true := by
  unfold Program.mayEnter
  rw [h, behind_main]
  simp only [strip_none, h1, h2, h3, not_gc, not_spec, not_carried, List.head?_cons, Option.some_beq_some, is_cut, List.contains_nil, Bool.not_false, Bool.or_true, Bool.and_self, Bool.false_and, Bool.or_self]
end
theorem make_cut : Tryd.prog.make = some .cut := make_of head_words
theorem liftsFinal_no : Tryd.prog.liftsFinal = false := liftsFinal_of head_words
theorem mayEnter_yes : Tryd.prog.mayEnter = true := mayEnter_of head_words (by kernel_rfl) (by kernel_rfl) (by kernel_rfl)
end Go.Proofs.YtohodehmidbmlaaDoor
namespace Go.Proofs.YtohodehmidbmlaaDoor
set_option maxRecDepth 100000
theorem main_sum : isSumSigns (headB.map Char.ofNat) = true := by kernel_rfl
theorem main_harness : (headA.map Char.ofNat == "harness".toList) = true := by kernel_rfl
theorem main_of {P : Program} {rest : List (List Char)} (h : wordsSigns P.initOrder.toList = headA.map Char.ofNat :: headB.map Char.ofNat :: rest) : P.mainIs = some (true, headB.map Char.ofNat) := by
  unfold Program.mainIs
  rw [h]
  simp only [main_sum, main_harness, Bool.not_true, Bool.false_eq_true, if_false, if_true]
theorem main_word : Rows.fnExactDigitsCard.stood.harness = (true, String.ofList (headB.map Char.ofNat)) := by kernel_rfl
theorem main_is : Tryd.prog.mainIs = some (Rows.fnExactDigitsCard.stood.harness.1, Rows.fnExactDigitsCard.stood.harness.2.toList) := by
  rw [main_word, main_of head_words]
  simp only [String.toList_ofList]
end Go.Proofs.YtohodehmidbmlaaDoor
namespace Go.Proofs.YtohodehmidbmlaaDoor.fnSchemaRead
open Go.ChangeShapes Go.WideShapes Go.ChangeAt Go.RowKit
open Go.ChangeMaps (open_string)
set_option linter.unusedVariables false
set_option maxRecDepth 100000


theorem lifted (os : Os) (started : os.Started) (H : Type) (enc : TypeId × Value → H) :
    ReturnsInHanded {} Tryd.checked os 4 .any (fun w args => (Rows.fnSchemaReadSpec.pre enc Tryd.prog Tryd.f4 [] false w args ∧ laidMetH Tryd.prog laid5 w) ∧ sizedMet enc Tryd.prog Tryd.f4 (OpenSpec.ofChange Rows.fnSchemaReadSpec) false w args) (Rows.fnSchemaReadSpec.post enc Tryd.prog Tryd.f4 false true false false) := by
  refine returns_and_shaped (C := Tryd.checked) (X := fun w _ => laidMetH Tryd.prog laid5 w) (fun _ _ _ hh h => h.of_heap hh) own started (by kernel_rfl) Tryd.func4
    (ChangeSpec.witness_shaped (enc := enc) (C := Tryd.checked) (os := os) (X := fun w _ => laidMetH Tryd.prog laid5 w) false (World.doorLaid Tryd.prog 400 os) #[.slice none 0 0] 8 rfl (door_shaped os _) (by kernel_rfl) (by kernel_rfl) (by kernel_rfl) (door_met5 os _)) ?_
  intro W base args ds gs before hval0 hW hcnd hL hsh
  have hval : ∀ (j : Nat) t v, Tryd.f4.params[j]? = some t → args[j]? = some v → Value.okWide Tryd.prog W .any base t v := hval0
  have hW' := hW
  obtain ⟨p, q, hA0, hV, rfl, hfz, hnd⟩ := hW
  have hA : DataW.TrodAll enc Tryd.prog W 0 (fun _ => true) true Tryd.f4.params.toList args.toList ds p := hA0
  rw [Tryd.params4] at hA hval
  obtain ⟨v0, vs0, d0, ds0, p0, q0, hargs, rfl, rfl, h0, r0⟩ := trodAll_cons hA
  obtain ⟨rfl, rfl, rfl⟩ := trodAll_nil r0
  obtain rfl : args = #[v0] := by cases args; simp_all
  obtain ⟨rfl, rfl⟩ := trodVars_none hV
  obtain ⟨A0, n0, c0, l0, rfl, w0, u0⟩ := open_byteS (hval 0 26 v0 rfl rfl) h0
  exact law_post laidOut Tryd.underlying4 rfl (by rw [Tryd.params4]; exact readables (by kernel_rfl) (by kernel_rfl)) rfl hW' rfl rfl rfl (fnSchemaRead_walk W A0 n0 c0 l0 w0 u0 (doorS_of (door_of5 hL) hsh))

theorem facts : joinedFacts Tryd.prog 4 Tryd.f4 Rows.fnSchemaReadSpec Rows.fnSchemaReadRow = true := by
  unfold joinedFacts
  rw [mayEnter_yes, liftsFinal_no, make_cut]
  kernel_rfl

theorem over : Rows.fnSchemaReadRow.holds Tryd.pinned (OpenSpec.ofChange Rows.fnSchemaReadSpec) :=
  OpenClaim.holds_of_wide 4 Tryd.f4 rfl rfl rfl rfl rfl rfl rfl ⟨rfl, rfl, rfl, rfl, rfl⟩ rfl rfl rfl rfl rfl (by kernel_rfl) Tryd.func4 facts
    (of_decide_eq_true (by kernel_rfl)) (by unfold Func.isWrapper; first | (rw [if_pos (by decide +kernel)]; kernel_rfl) | (rw [if_neg (by decide +kernel)]; exact ⟨rfl, rfl⟩))
    (fun os started H enc _ => lifted os started H enc)

theorem row_tie : Rows.fnSchemaReadRow.laidByTextAt .later Tryd.pinned [.data, .data, .data, .sentinel, .sentinel] true := fnSchemaRead_row_tie
theorem proved : Rows.FnSchemaReadCardSaid :=
  Claim7.holds_tied_plain_at .later [] [.data, .data, .data, .sentinel, .sentinel] true Rows.fnExactDigitsCard.stood.harness true
    over (fun _ h => by cases h) (by kernel_rfl) (fun _ h => by cases h) row_tie rfl ⟨rfl, rfl⟩ main_is rfl
    (fun f fn hf hfn => by
      obtain rfl : f = 4 := Option.some.inj ((show Tryd.prog.funcNamed Rows.fnSchemaReadRow.func = some 4 by kernel_rfl).symm.trans hf) |>.symm
      obtain rfl : fn = Tryd.f4 := (Option.some.inj (Tryd.func4.symm.trans hfn)).symm
      exact ⟨by kernel_rfl, fun j t ht => by
        rw [Tryd.params4] at ht
        have hm : t ∈ [26] := by simpa using Array.mem_of_getElem? ht
        have hall : ([26].all fun u => !Tryd.prog.wantsStandIn u) = true := by kernel_rfl
        exact (show Tryd.prog.wantsStandIn t = false by simpa using List.all_eq_true.1 hall t hm)⟩)
    (by kernel_rfl)
#print axioms proved
end Go.Proofs.YtohodehmidbmlaaDoor.fnSchemaRead
