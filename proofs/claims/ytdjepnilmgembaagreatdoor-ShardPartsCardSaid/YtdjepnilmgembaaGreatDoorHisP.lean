/-
  Histories of tests: what the calls compute (plain).
  Histories of tests: a history gets one more sample; results are added (plain).
  Histories of tests: the median of numbers, the rate of failures (plain).
-/
import Derived.Test.YtdjepnilmgembaaGreatDoorNames4
import Derived.Test.YtdjepnilmgembaaGreatDoorComm0
import Derived.Test.YtdjepnilmgembaaGreatDoorStab

namespace Go.Proofs.YtdjepnilmgembaaGreatDoor
open Go.RowKit

theorem get_bang {α : Type} [Inhabited α] {l : List α} {k : Nat} {x : α} (h : l[k]? = some x) : l[k]! = x := by
  rw [getElem!_def, h]
abbrev U64 : Type := { n : Int // 0 ≤ n ∧ n ≤ 18446744073709551615 }
instance : Inhabited U64 := ⟨⟨0, by omega⟩⟩
structure Samp where
  code : U64
  status : I64
  time : I64
  stamp : I64
deriving DecidableEq, Inhabited
structure Hs where
  name : Str
  l : List Samp
deriving DecidableEq, Inhabited
structure Res where
  name : Str
  status : I64
  time : I64
deriving DecidableEq, Inhabited
theorem bsr_yes {q : Nat → Bool} {i j : Nat} (h : i < j) (hq : q ((i + j) / 2) = true) : bsr q i j = bsr q ((i + j) / 2 + 1) j := by rw [bsr, dif_pos h, if_pos hq]
theorem bsr_no {q : Nat → Bool} {i j : Nat} (h : i < j) (hq : q ((i + j) / 2) = false) : bsr q i j = bsr q i ((i + j) / 2) := by rw [bsr, dif_pos h, if_neg (by rw [hq]; decide)]
theorem bsr_end {q : Nat → Bool} {i j : Nat} (h : ¬ i < j) : bsr q i j = i := by rw [bsr, dif_neg h]
def isName (p : Str) (x : Hs) : Bool := x.name.1.toList == p.1.toList
/-- The place of a name, -1 if there is none. -/
def findN (p : Str) (l : List Hs) : Int := if l.findIdx (isName p) < l.length then (l.findIdx (isName p) : Int) else -1
theorem findIdx_at {α : Type} {p : α → Bool} {l : List α} {k : Nat} {x : α} (h : (l.take k).all (fun y => !p y) = true) (hx : l[k]? = some x) (hp : p x = true) : l.findIdx p = k := by
  obtain ⟨hk, rfl⟩ := List.getElem?_eq_some_iff.1 hx
  refine (List.findIdx_eq hk).2 ⟨hp, fun j hj => ?_⟩
  have := List.all_eq_true.1 h (l[j]'(by omega)) (by rw [List.mem_take_iff_getElem]; exact ⟨j, by omega, rfl⟩)
  simpa using this
theorem findN_at {p : Str} {l : List Hs} {k : Nat} {x : Hs} (h : (l.take k).all (fun y => !isName p y) = true) (hx : l[k]? = some x) (hp : isName p x = true) : findN p l = k := by
  have hk := (List.getElem?_eq_some_iff.1 hx).1
  unfold findN
  rw [findIdx_at h hx hp, if_pos hk]
theorem findN_none {p : Str} {l : List Hs} (h : l.all (fun y => !isName p y) = true) : findN p l = -1 := by
  unfold findN
  rw [if_neg]
  rw [List.findIdx_lt_length]
  rintro ⟨x, hx, hp⟩
  have := List.all_eq_true.1 h x hx
  rw [hp] at this; cases this
/-- Where a name is, or would be put; whether it is there; how many stand ahead of it. -/
def atN (p : Str) (l : List Hs) : Nat := bsr (fun h => decide (cmpS l[h]!.name p < 0)) 0 l.length
def hasN (p : Str) (l : List Hs) : Bool := decide (atN p l < l.length) && decide (cmpS l[atN p l]!.name p = 0)
def plN (p : Str) (l : List Hs) : Nat := (l.takeWhile fun y => decide (cmpS y.name p < 0)).length
theorem plN_at {p : Str} {l : List Hs} {k : Nat} (hk : k ≤ l.length) (ht : ∀ j y, j < k → l[j]? = some y → cmpS y.name p < 0) (hf : ∀ y, l[k]? = some y → ¬ cmpS y.name p < 0) : plN p l = k := by
  unfold plN
  induction l generalizing k with
  | nil => simp at hk; subst hk; rfl
  | cons a l ih =>
    rcases k with _ | k
    · have := hf a rfl
      rw [List.takeWhile_cons_of_neg (by simpa using this)]; rfl
    · have h0 := ht 0 a (by omega) rfl
      rw [List.takeWhile_cons_of_pos (by simpa using h0), List.length_cons, ih (by simpa using hk) (fun j y hj hy => ht (j + 1) y (by omega) hy) (fun y hy => hf y hy)]
theorem plN_le (p : Str) (l : List Hs) : plN p l ≤ l.length := (List.takeWhile_prefix _).length_le
/-- Each name comes behind the ones before. -/
def AscN (l : List Hs) : Prop := ∀ (i j : Nat) (x y : Hs), i < j → l[i]? = some x → l[j]? = some y → cmpS x.name y.name < 0
theorem asc_of_steps {l : List Hs} (h : ∀ (k : Nat) (x y : Hs), l[k + 1]? = some x → l[k]? = some y → cmpS y.name x.name < 0) : AscN l := by
  intro i j
  induction j with
  | zero => intro x y hij; omega
  | succ j ih =>
    intro x y hij hx hy
    obtain ⟨z, hz⟩ := get_some (show j < l.length by have := (List.getElem?_eq_some_iff.1 hy).1; omega)
    have h1 := h j y z hy hz
    by_cases e : i = j
    · subst e
      rw [hx] at hz
      obtain rfl : x = z := by simpa using hz
      exact h1
    · exact ord_str.trans _ _ _ (ih x z (by omega) hx hz) h1
theorem atN_spec {l : List Hs} (ha : AscN l) (p : Str) : atN p l ≤ l.length ∧ (∀ j y, j < atN p l → l[j]? = some y → cmpS y.name p < 0) ∧ (∀ j y, atN p l ≤ j → l[j]? = some y → ¬ cmpS y.name p < 0) := by
  obtain ⟨_, h2, h3, h4⟩ := bsr_spec (fun h => decide (cmpS l[h]!.name p < 0)) l.length 0 l.length (by omega) (Nat.zero_le _) (fun c c' _ hcc hc' hq => by
    obtain ⟨x, hx⟩ := get_some (show c < l.length by omega)
    obtain ⟨y, hy⟩ := get_some hc'
    simp only [get_bang hx, get_bang hy, decide_eq_false_iff_not] at hq ⊢
    rcases Nat.lt_or_eq_of_le hcc with hlt | rfl
    · exact fun h => hq (ord_str.trans _ _ _ (ha c c' x y hlt hx hy) h)
    · rw [hx] at hy
      obtain rfl : x = y := by simpa using hy
      exact hq)
  refine ⟨h2, fun j y hj hy => ?_, fun j y hj hy => ?_⟩
  · have := h3 j (Nat.zero_le _) hj
    simpa [get_bang hy] using this
  · have := h4 j hj (List.getElem?_eq_some_iff.1 hy).1
    simpa [get_bang hy] using this
theorem isName_iff {p : Str} {x : Hs} : isName p x = true ↔ x.name = p := by unfold isName; rw [eq_str, decide_eq_true_eq]
theorem cmp_ne {a b : Str} (h : cmpS a b < 0) : a ≠ b := fun e => by rw [(ord_str.zero a b).2 e] at h; omega
/-- Where a name is: found by both, or by neither. -/
theorem find_cases {l : List Hs} (ha : AscN l) (p : Str) : (hasN p l = true ∧ findN p l = (atN p l : Int) ∧ ∃ x, l[atN p l]? = some x ∧ x.name = p) ∨ (hasN p l = false ∧ findN p l = -1 ∧ plN p l = atN p l ∧ atN p l ≤ l.length ∧ ∀ x ∈ l, x.name ≠ p) := by
  obtain ⟨h1, h2, h3⟩ := atN_spec ha p
  by_cases hlt : atN p l < l.length
  · obtain ⟨x, hx⟩ := get_some hlt
    by_cases hz : cmpS x.name p = 0
    · have hxp := (ord_str.zero _ _).1 hz
      refine Or.inl ⟨?_, ?_, x, hx, hxp⟩
      · unfold hasN; rw [get_bang hx, hz, decide_eq_true hlt]; rfl
      · refine findN_at ?_ hx (isName_iff.2 hxp)
        rw [List.all_eq_true]
        intro y hy
        obtain ⟨j, hj⟩ := List.getElem?_of_mem hy
        rw [List.getElem?_take] at hj
        split at hj
        · rename_i hjl
          have := cmp_ne (h2 j y hjl hj)
          rw [Bool.not_eq_true', ← Bool.not_eq_true]
          exact fun e => this (isName_iff.1 e)
        · cases hj
    · have hgt : cmpS p x.name < 0 := by have := h3 _ x (Nat.le_refl _) hx; rw [ord_str.neg x.name p]; omega
      have hno : ∀ y ∈ l, y.name ≠ p := fun y hy e => by
        obtain ⟨j, hj⟩ := List.getElem?_of_mem hy
        rcases Nat.lt_trichotomy j (atN p l) with h | h | h
        · exact cmp_ne (h2 j y h hj) e
        · subst h
          rw [hx] at hj
          obtain rfl : x = y := by simpa using hj
          exact hz ((ord_str.zero _ _).2 e)
        · exact cmp_ne (ord_str.trans _ _ _ hgt (ha _ _ x y h hx hj)) e.symm
      refine Or.inr ⟨?_, ?_, ?_, h1, hno⟩
      · unfold hasN; rw [get_bang hx, decide_eq_false hz, Bool.and_false]
      · refine findN_none ?_
        rw [List.all_eq_true]
        intro y hy
        rw [Bool.not_eq_true', ← Bool.not_eq_true]
        exact fun e => hno y hy (isName_iff.1 e)
      · exact plN_at h1 (fun j y hj hy => h2 j y hj hy) (fun y hy => h3 _ y (Nat.le_refl _) hy)
  · have hno : ∀ y ∈ l, y.name ≠ p := fun y hy e => by
      obtain ⟨j, hj⟩ := List.getElem?_of_mem hy
      have := (List.getElem?_eq_some_iff.1 hj).1
      exact cmp_ne (h2 j y (by omega) hj) e
    refine Or.inr ⟨?_, ?_, ?_, h1, hno⟩
    · unfold hasN; rw [decide_eq_false hlt]; rfl
    · refine findN_none ?_
      rw [List.all_eq_true]
      intro y hy
      rw [Bool.not_eq_true', ← Bool.not_eq_true]
      exact fun e => hno y hy (isName_iff.1 e)
    · exact plN_at h1 (fun j y hj hy => h2 j y hj hy) (fun y hy => h3 _ y (Nat.le_refl _) hy)
def timeB (n : Int) : Bool := decide (0 ≤ n) && decide (n ≤ 1125899906842624)
/-- The error of a sample behind a time; of samples behind one. -/
def smpErr (s : Samp) (last : Int) : Int := if s.status.1 < 1 ∨ 3 < s.status.1 then 1 else if timeB s.time.1 = false ∨ timeB s.stamp.1 = false then 2 else if s.stamp.1 < last then 22 else 0
def smpsErr : Int → List Samp → Int
  | _, [] => 0
  | last, s :: l => if smpErr s last = 0 then smpsErr s.stamp.1 l else smpErr s last
/-- Whether a name comes behind another one, if there is one. -/
def behindB (p : Option Str) (n : Str) : Bool := match p with | some q => decide (cmpS q n < 0) | none => true
def hisErr (p : Option Str) (h : Hs) : Int := if pathB h.name = false then 1 else if behindB p h.name = false then 22 else if 32 < h.l.length then 15 else smpsErr 0 h.l
def hissErr : Option Str → List Hs → Int
  | _, [] => 0
  | p, h :: l => if hisErr p h = 0 then hissErr (some h.name) l else hisErr p h
def valErr (l : List Hs) : Int := if 4096 < l.length then 15 else hissErr none l
def hasS (l : List Str) (s : Str) : Bool := l.any fun x => decide (x = s)
theorem hasS_iff {l : List Str} {s : Str} : hasS l s = true ↔ s ∈ l := by
  unfold hasS
  rw [List.any_eq_true]
  constructor
  · rintro ⟨x, hx, e⟩
    have : x = s := by simpa using e
    exact this ▸ hx
  · exact fun h => ⟨s, h, by simp⟩
/-- The error of a result behind names; of results behind some. -/
def resErr (seen : List Str) (r : Res) : Int := if pathB r.name = false ∨ r.status.1 < 1 ∨ 3 < r.status.1 then 1 else if timeB r.time.1 = false then 2 else if hasS seen r.name = true then 7 else 0
def ressErr : List Str → List Res → Int
  | _, [] => 0
  | seen, r :: l => if resErr seen r = 0 then ressErr (seen ++ [r.name]) l else resErr seen r
def repErr (l : List Res) : Int := if 4096 < l.length then 15 else ressErr [] l

/-! Valid histories and results, by their elements. -/
structure SampOk (l : List Samp) : Prop where
  status : ∀ s ∈ l, 1 ≤ s.status.1 ∧ s.status.1 ≤ 3
  time : ∀ s ∈ l, timeB s.time.1 = true ∧ timeB s.stamp.1 = true
  asc : l.Pairwise fun a b => a.stamp.1 ≤ b.stamp.1
theorem timeB_iff {n : Int} : timeB n = true ↔ 0 ≤ n ∧ n ≤ 1125899906842624 := by unfold timeB; simp
theorem smpErr_ok {s : Samp} {last : Int} : smpErr s last = 0 ↔ (1 ≤ s.status.1 ∧ s.status.1 ≤ 3) ∧ (timeB s.time.1 = true ∧ timeB s.stamp.1 = true) ∧ last ≤ s.stamp.1 := by
  unfold smpErr
  by_cases h1 : s.status.1 < 1 ∨ 3 < s.status.1
  · rw [if_pos h1]
    exact ⟨fun h => (by cases h), fun h => by omega⟩
  · rw [if_neg h1]
    by_cases h2 : timeB s.time.1 = false ∨ timeB s.stamp.1 = false
    · rw [if_pos h2]
      refine ⟨fun h => (by cases h), fun h => ?_⟩
      rcases h2 with h2 | h2
      · rw [h.2.1.1] at h2; cases h2
      · rw [h.2.1.2] at h2; cases h2
    · rw [if_neg h2]
      have h3 : timeB s.time.1 = true ∧ timeB s.stamp.1 = true := by
        constructor
        · cases h : timeB s.time.1 with
          | true => rfl
          | false => exact absurd (.inl h) h2
        · cases h : timeB s.stamp.1 with
          | true => rfl
          | false => exact absurd (.inr h) h2
      by_cases h4 : s.stamp.1 < last
      · rw [if_pos h4]
        exact ⟨fun h => (by cases h), fun h => by omega⟩
      · rw [if_neg h4]
        exact ⟨fun _ => ⟨by omega, h3, by omega⟩, fun _ => rfl⟩
theorem smpsErr_ok : ∀ {l : List Samp} {last : Int}, smpsErr last l = 0 ↔ SampOk l ∧ ∀ s ∈ l, last ≤ s.stamp.1
  | [], last => ⟨fun _ => ⟨⟨(fun _ h => absurd h List.not_mem_nil), (fun _ h => absurd h List.not_mem_nil), .nil⟩, (fun _ h => absurd h List.not_mem_nil)⟩, fun _ => rfl⟩
  | s :: l, last => by
    unfold smpsErr
    have ih := @smpsErr_ok l s.stamp.1
    by_cases h : smpErr s last = 0
    · rw [if_pos h, ih]
      obtain ⟨h1, h2, h3⟩ := smpErr_ok.1 h
      constructor
      · rintro ⟨⟨a, b, c⟩, d⟩
        refine ⟨⟨fun x hx => ?_, fun x hx => ?_, List.pairwise_cons.2 ⟨d, c⟩⟩, fun x hx => ?_⟩
        · rcases List.mem_cons.1 hx with rfl | hx
          · exact h1
          · exact a x hx
        · rcases List.mem_cons.1 hx with rfl | hx
          · exact h2
          · exact b x hx
        · rcases List.mem_cons.1 hx with rfl | hx
          · exact h3
          · have := d x hx; omega
      · rintro ⟨⟨a, b, c⟩, _⟩
        rw [List.pairwise_cons] at c
        exact ⟨⟨fun x hx => a x (List.mem_cons_of_mem _ hx), fun x hx => b x (List.mem_cons_of_mem _ hx), c.2⟩, c.1⟩
    · rw [if_neg h]
      refine ⟨fun h2 => absurd h2 h, fun h2 => ?_⟩
      exact smpErr_ok.2 ⟨h2.1.status s (by simp), h2.1.time s (by simp), h2.2 s (by simp)⟩
structure HistOk (h : Hs) : Prop where
  path : pathB h.name = true
  len : h.l.length ≤ 32
  samp : SampOk h.l
structure ValH (l : List Hs) : Prop where
  len : l.length ≤ 4096
  each : ∀ h ∈ l, HistOk h
  asc : AscN l
theorem hisErr_ok {p : Option Str} {h : Hs} : hisErr p h = 0 ↔ HistOk h ∧ ∀ q, p = some q → cmpS q h.name < 0 := by
  unfold hisErr
  by_cases h1 : pathB h.name = false
  · rw [if_pos h1]
    exact ⟨fun e => (by cases e), fun e => by rw [e.1.path] at h1; cases h1⟩
  · rw [if_neg h1]
    have h1' : pathB h.name = true := by simpa using h1
    have hq : (behindB p h.name = false) ↔ ¬ ∀ q, p = some q → cmpS q h.name < 0 := by
      unfold behindB
      cases p with
      | none => simp
      | some q => simp
    by_cases h2 : behindB p h.name = false
    · rw [if_pos h2]
      exact ⟨fun e => (by cases e), fun e => absurd e.2 (hq.1 h2)⟩
    · rw [if_neg h2]
      have h2' : ∀ q, p = some q → cmpS q h.name < 0 := Classical.not_not.1 (fun e => h2 (hq.2 e))
      by_cases h3 : 32 < h.l.length
      · rw [if_pos h3]
        exact ⟨fun e => (by cases e), fun e => by have := e.1.len; omega⟩
      · rw [if_neg h3, smpsErr_ok]
        constructor
        · rintro ⟨a, _⟩
          exact ⟨⟨h1', by omega, a⟩, h2'⟩
        · rintro ⟨a, _⟩
          exact ⟨a.samp, fun s hs => (timeB_iff.1 (a.samp.time s hs).2).1⟩
theorem hissErr_ok : ∀ {l : List Hs} {p : Option Str}, hissErr p l = 0 ↔ (∀ h ∈ l, HistOk h) ∧ AscN l ∧ ∀ q x, p = some q → l[0]? = some x → cmpS q x.name < 0
  | [], p => ⟨fun _ => ⟨(fun _ h => absurd h List.not_mem_nil), fun i j x y _ h => by simp at h, fun q x _ h => by simp at h⟩, fun _ => rfl⟩
  | h :: l, p => by
    unfold hissErr
    have ih := @hissErr_ok l (some h.name)
    by_cases h0 : hisErr p h = 0
    · rw [if_pos h0, ih]
      obtain ⟨h1, h2⟩ := hisErr_ok.1 h0
      constructor
      · rintro ⟨a, b, c⟩
        refine ⟨fun x hx => ?_, asc_of_steps fun k x y hx hy => ?_, fun q x hq hx => ?_⟩
        · rcases List.mem_cons.1 hx with rfl | hx
          · exact h1
          · exact a x hx
        · rcases k with _ | k
          · obtain rfl : h = y := by simpa using hy
            exact c h.name x rfl (by simpa using hx)
          · exact b k (k + 1) y x (by omega) (by simpa using hy) (by simpa using hx)
        · obtain rfl : h = x := by simpa using hx
          exact h2 q hq
      · rintro ⟨a, b, _⟩
        refine ⟨fun x hx => a x (List.mem_cons_of_mem _ hx), fun i j x y hij hx hy => b (i + 1) (j + 1) x y (by omega) (by simpa using hx) (by simpa using hy), fun q x hq hx => ?_⟩
        obtain rfl : h.name = q := by simpa using hq
        exact b 0 1 h x (by omega) rfl (by simpa using hx)
    · rw [if_neg h0]
      refine ⟨fun h2 => absurd h2 h0, fun ⟨a, _, c⟩ => hisErr_ok.2 ⟨a h (by simp), fun q hq => c q h hq rfl⟩⟩
theorem valid_ok {l : List Hs} : valErr l = 0 ↔ ValH l := by
  unfold valErr
  by_cases h : 4096 < l.length
  · rw [if_pos h]
    exact ⟨fun e => (by cases e), fun e => by have := e.len; omega⟩
  · rw [if_neg h, hissErr_ok]
    constructor
    · rintro ⟨a, b, _⟩
      exact ⟨by omega, a, b⟩
    · rintro ⟨_, a, b⟩
      exact ⟨a, b, fun q x hq => by cases hq⟩
/-- A result as it ought to be. -/
def ResOk (r : Res) : Prop := pathB r.name = true ∧ (1 ≤ r.status.1 ∧ r.status.1 ≤ 3) ∧ timeB r.time.1 = true
theorem resErr_ok {seen : List Str} {r : Res} : resErr seen r = 0 ↔ ResOk r ∧ r.name ∉ seen := by
  unfold resErr ResOk
  by_cases h1 : pathB r.name = false ∨ r.status.1 < 1 ∨ 3 < r.status.1
  · rw [if_pos h1]
    refine ⟨fun e => (by cases e), fun e => ?_⟩
    rcases h1 with h1 | h1
    · rw [e.1.1] at h1; cases h1
    · omega
  · rw [if_neg h1]
    have hp : pathB r.name = true := by
      cases h : pathB r.name with
      | true => rfl
      | false => exact absurd (.inl h) h1
    by_cases h2 : timeB r.time.1 = false
    · rw [if_pos h2]
      exact ⟨fun e => (by cases e), fun e => by rw [e.1.2.2] at h2; cases h2⟩
    · rw [if_neg h2]
      have h2' : timeB r.time.1 = true := by simpa using h2
      by_cases h3 : hasS seen r.name = true
      · rw [if_pos h3]
        exact ⟨fun e => (by cases e), fun e => absurd (hasS_iff.1 h3) e.2⟩
      · rw [if_neg h3]
        exact ⟨fun _ => ⟨⟨hp, by omega, h2'⟩, fun h => h3 (hasS_iff.2 h)⟩, fun _ => rfl⟩
theorem ressErr_ok : ∀ {l : List Res} {seen : List Str}, ressErr seen l = 0 ↔ (∀ r ∈ l, ResOk r) ∧ (l.map Res.name).Nodup ∧ ∀ r ∈ l, r.name ∉ seen
  | [], seen => ⟨fun _ => ⟨(fun _ h => absurd h List.not_mem_nil), by simp, (fun _ h => absurd h List.not_mem_nil)⟩, fun _ => rfl⟩
  | r :: l, seen => by
    unfold ressErr
    have ih := @ressErr_ok l (seen ++ [r.name])
    by_cases h0 : resErr seen r = 0
    · rw [if_pos h0, ih]
      obtain ⟨h1, h2⟩ := resErr_ok.1 h0
      rw [List.map_cons, List.nodup_cons]
      constructor
      · rintro ⟨a, b, c⟩
        refine ⟨fun x hx => ?_, ⟨fun hm => ?_, b⟩, fun x hx => ?_⟩
        · rcases List.mem_cons.1 hx with rfl | hx
          · exact h1
          · exact a x hx
        · obtain ⟨y, hy, e⟩ := List.mem_map.1 hm
          exact c y hy (by rw [e]; simp)
        · rcases List.mem_cons.1 hx with rfl | hx
          · exact h2
          · exact fun h => c x hx (by simp [h])
      · rintro ⟨a, ⟨b1, b2⟩, c⟩
        refine ⟨fun x hx => a x (List.mem_cons_of_mem _ hx), b2, fun x hx h => ?_⟩
        rcases List.mem_append.1 h with h | h
        · exact c x (List.mem_cons_of_mem _ hx) h
        · exact b1 (List.mem_map.2 ⟨x, hx, by simpa using h⟩)
    · rw [if_neg h0]
      exact ⟨fun h2 => absurd h2 h0, fun ⟨a, _, c⟩ => resErr_ok.2 ⟨a r (by simp), c r (by simp)⟩⟩
structure ValR (l : List Res) : Prop where
  len : l.length ≤ 4096
  each : ∀ r ∈ l, ResOk r
  nodup : (l.map Res.name).Nodup
theorem rep_ok {l : List Res} : repErr l = 0 ↔ ValR l := by
  unfold repErr
  by_cases h : 4096 < l.length
  · rw [if_pos h]
    exact ⟨fun e => (by cases e), fun e => by have := e.len; omega⟩
  · rw [if_neg h, ressErr_ok]
    exact ⟨fun ⟨a, b, _⟩ => ⟨by omega, a, b⟩, fun e => ⟨e.each, e.nodup, fun _ _ h => absurd h List.not_mem_nil⟩⟩
end Go.Proofs.YtdjepnilmgembaaGreatDoor

namespace Go.Proofs.YtdjepnilmgembaaGreatDoor
open Go.RowKit

theorem asc_pair {l : List Hs} : AscN l ↔ l.Pairwise fun x y => cmpS x.name y.name < 0 := by
  rw [List.pairwise_iff_getElem]
  constructor
  · exact fun h i j hi hj hij => h i j _ _ hij (List.getElem?_eq_getElem hi) (List.getElem?_eq_getElem hj)
  · intro h i j x y hij hx hy
    obtain ⟨hi, rfl⟩ := List.getElem?_eq_some_iff.1 hx
    obtain ⟨hj, rfl⟩ := List.getElem?_eq_some_iff.1 hy
    exact h i j hi hj hij
theorem name_one {l : List Hs} (ha : AscN l) {x y : Hs} (hx : x ∈ l) (hy : y ∈ l) (h : x.name = y.name) : x = y := by
  obtain ⟨i, hi⟩ := List.getElem?_of_mem hx
  obtain ⟨j, hj⟩ := List.getElem?_of_mem hy
  rcases Nat.lt_trichotomy i j with h1 | h1 | h1
  · exact absurd h (cmp_ne (ha i j x y h1 hi hj))
  · subst h1
    rw [hi] at hj
    simpa using hj
  · exact absurd h.symm (cmp_ne (ha j i y x h1 hj hi))
/-- Two ascending lists of the same elements are one. -/
theorem asc_ext : ∀ {l m : List Hs}, AscN l → AscN m → (∀ h, h ∈ l ↔ h ∈ m) → l = m := by
  intro l m hl hm he
  have h1 := asc_pair.1 hl
  have h2 := asc_pair.1 hm
  clear hl hm
  induction l generalizing m with
  | nil =>
    cases m with
    | nil => rfl
    | cons y m => exact absurd ((he y).2 (by simp)) (by simp)
  | cons x l ih =>
    cases m with
    | nil => exact absurd ((he x).1 (by simp)) (by simp)
    | cons y m =>
      rw [List.pairwise_cons] at h1 h2
      have hxy : x = y := by
        rcases List.mem_cons.1 ((he x).1 (by simp)) with e | hx
        · exact e
        · rcases List.mem_cons.1 ((he y).2 (by simp)) with e | hy
          · exact e.symm
          · have a := h1.1 y hy
            have b := h2.1 x hx
            exact absurd rfl (cmp_ne (ord_str.trans _ _ _ a b))
      subst hxy
      rw [ih (fun h => ⟨fun hh => ?_, fun hh => ?_⟩) h1.2 h2.2]
      · rcases List.mem_cons.1 ((he h).1 (List.mem_cons_of_mem _ hh)) with e | h3
        · exact absurd rfl (cmp_ne (e ▸ h1.1 h hh))
        · exact h3
      · rcases List.mem_cons.1 ((he h).2 (List.mem_cons_of_mem _ hh)) with e | h3
        · exact absurd rfl (cmp_ne (e ▸ h2.1 h hh))
        · exact h3
/-- The latest samples; the samples of a name; a list with one more sample. -/
def cutS (l : List Samp) : List Samp := l.drop (l.length - 32)
def oldS (l : List Hs) (nm : Str) : List Samp := if hasN nm l = true then l[atN nm l]!.l else []
def withL (l : List Hs) (nm : Str) (s : Samp) : List Hs := if hasN nm l = true then l.set (atN nm l) ⟨nm, cutS (oldS l nm ++ [s])⟩ else l.take (atN nm l) ++ ⟨nm, [s]⟩ :: l.drop (atN nm l)
theorem cut_one (s : Samp) : cutS [s] = [s] := rfl
theorem cut_len (l : List Samp) : (cutS l).length ≤ 32 := by unfold cutS; rw [List.length_drop]; omega
theorem cut_last (l : List Samp) (s : Samp) : (cutS (l ++ [s])).getLast? = some s := by
  unfold cutS
  rw [List.getLast?_drop, if_neg (by rw [List.length_append, List.length_singleton]; omega), List.getLast?_append]
  rfl
theorem cut_mem {l : List Samp} {s : Samp} (h : s ∈ cutS l) : s ∈ l := List.mem_of_mem_drop h
theorem with_split {l : List Hs} (ha : AscN l) (nm : Str) (s : Samp) : ∃ A m B, l = A ++ m ++ B ∧ withL l nm s = A ++ ⟨nm, cutS (oldS l nm ++ [s])⟩ :: B ∧ A.length = atN nm l ∧
    ((m = [] ∧ hasN nm l = false ∧ oldS l nm = [] ∧ (∀ h ∈ l, h.name ≠ nm) ∧ (∀ h ∈ A, cmpS h.name nm < 0) ∧ ∀ h ∈ B, cmpS nm h.name < 0) ∨ ∃ x, m = [x] ∧ x.name = nm ∧ oldS l nm = x.l ∧ hasN nm l = true) := by
  rcases find_cases ha nm with ⟨h1, _, x, hx, hxn⟩ | ⟨h1, _, _, hle, hno⟩
  · obtain ⟨hk, e⟩ := List.getElem?_eq_some_iff.1 hx
    have ho : oldS l nm = x.l := by unfold oldS; rw [if_pos h1, get_bang hx]
    refine ⟨l.take (atN nm l), [x], l.drop (atN nm l + 1), ?_, ?_, ?_, .inr ⟨x, rfl, hxn, ho, h1⟩⟩
    · rw [List.append_assoc, List.singleton_append, ← e, List.getElem_cons_drop hk, List.take_append_drop]
    · unfold withL
      rw [if_pos h1, List.set_eq_take_append_cons_drop, if_pos hk]
    · rw [List.length_take]; omega
  · obtain ⟨_, h3, h4⟩ := atN_spec ha nm
    have ho : oldS l nm = [] := by unfold oldS; rw [if_neg (by rw [h1]; decide)]
    refine ⟨l.take (atN nm l), [], l.drop (atN nm l), ?_, ?_, ?_, .inl ⟨rfl, h1, ho, hno, fun h hh => ?_, fun h hh => ?_⟩⟩
    · rw [List.append_nil, List.take_append_drop]
    · unfold withL
      rw [if_neg (by rw [h1]; decide), ho, List.nil_append, cut_one]
    · rw [List.length_take]; omega
    · obtain ⟨j, hj⟩ := List.getElem?_of_mem hh
      rw [List.getElem?_take] at hj
      split at hj
      · rename_i hlt
        exact h3 j h hlt hj
      · cases hj
    · obtain ⟨j, hj⟩ := List.getElem?_of_mem hh
      rw [List.getElem?_drop] at hj
      have h5 := h4 _ h (Nat.le_add_right _ j) hj
      have h6 : cmpS h.name nm ≠ 0 := fun e => hno h (List.mem_of_getElem? hj) ((ord_str.zero _ _).1 e)
      rw [ord_str.neg h.name nm]
      omega
theorem with_asc {l : List Hs} (ha : AscN l) (nm : Str) (s : Samp) : AscN (withL l nm s) := by
  obtain ⟨A, m, B, e1, e2, _, h⟩ := with_split ha nm s
  rw [e2, asc_pair]
  rw [e1, asc_pair] at ha
  rcases h with ⟨rfl, _, _, _, hA, hB⟩ | ⟨x, rfl, hxn, _, _⟩
  · rw [List.append_nil, List.pairwise_append] at ha
    rw [List.pairwise_append, List.pairwise_cons]
    refine ⟨ha.1, ⟨hB, ha.2.1⟩, fun a ha1 b hb => ?_⟩
    rcases List.mem_cons.1 hb with rfl | hb
    · exact hA a ha1
    · exact ha.2.2 a ha1 b hb
  · rw [List.append_assoc, List.singleton_append, List.pairwise_append, List.pairwise_cons] at ha
    rw [List.pairwise_append, List.pairwise_cons]
    refine ⟨ha.1, ⟨fun b hb => ?_, ha.2.1.2⟩, fun a ha1 b hb => ?_⟩
    · show cmpS nm b.name < 0
      rw [← hxn]
      exact ha.2.1.1 b hb
    · rcases List.mem_cons.1 hb with rfl | hb
      · show cmpS a.name nm < 0
        rw [← hxn]
        exact ha.2.2 a ha1 x (by simp)
      · exact ha.2.2 a ha1 b (List.mem_cons_of_mem _ hb)
theorem with_mem {l : List Hs} (ha : AscN l) {nm : Str} {s : Samp} {h : Hs} : h ∈ withL l nm s ↔ (h ∈ l ∧ h.name ≠ nm) ∨ h = ⟨nm, cutS (oldS l nm ++ [s])⟩ := by
  have ha2 := with_asc ha nm s
  obtain ⟨A, m, B, e1, e2, _, hh⟩ := with_split ha nm s
  have hy : (⟨nm, cutS (oldS l nm ++ [s])⟩ : Hs) ∈ withL l nm s := by rw [e2]; simp
  constructor
  · intro hm
    by_cases hn : h.name = nm
    · exact .inr (name_one ha2 hm hy hn)
    · left
      rw [e2] at hm
      refine ⟨?_, hn⟩
      rw [e1]
      rcases List.mem_append.1 hm with h1 | h1
      · simp [h1]
      · rcases List.mem_cons.1 h1 with rfl | h1
        · exact absurd rfl hn
        · simp [h1]
  · rintro (⟨h1, h2⟩ | rfl)
    · rw [e2]
      rw [e1] at h1
      rcases List.mem_append.1 h1 with h3 | h3
      · rcases List.mem_append.1 h3 with h4 | h4
        · simp [h4]
        · rcases hh with ⟨rfl, _⟩ | ⟨x, rfl, hxn, _⟩
          · exact absurd h4 List.not_mem_nil
          · obtain rfl : h = x := by simpa using h4
            exact absurd hxn h2
      · simp [h3]
    · exact hy
theorem with_len {l : List Hs} (ha : AscN l) (nm : Str) (s : Samp) : (withL l nm s).length = l.length + if hasN nm l = true then 0 else 1 := by
  obtain ⟨A, m, B, e1, e2, _, h⟩ := with_split ha nm s
  have e3 := congrArg List.length e1
  rw [e2]
  rcases h with ⟨rfl, h1, _⟩ | ⟨x, rfl, _, _, h1⟩
  · rw [if_neg (by rw [h1]; decide)]
    simp only [List.length_append, List.length_cons, List.length_nil] at e3 ⊢
    omega
  · rw [if_pos h1]
    simp only [List.length_append, List.length_cons, List.length_nil] at e3 ⊢
    omega
/-- What the samples of a name are, by the elements. -/
theorem old_of {l : List Hs} (ha : AscN l) {h : Hs} (hh : h ∈ l) : oldS l h.name = h.l ∧ hasN h.name l = true := by
  rcases find_cases ha h.name with ⟨h1, _, x, hx, e⟩ | ⟨_, _, _, _, hno⟩
  · refine ⟨?_, h1⟩
    unfold oldS
    rw [if_pos h1, get_bang hx, name_one ha (List.mem_of_getElem? hx) hh e]
  · exact absurd rfl (hno h hh)
theorem old_no {l : List Hs} (ha : AscN l) {nm : Str} (hno : ∀ h ∈ l, h.name ≠ nm) : oldS l nm = [] ∧ hasN nm l = false := by
  rcases find_cases ha nm with ⟨_, _, x, hx, e⟩ | ⟨h1, _⟩
  · exact absurd e (hno x (List.mem_of_getElem? hx))
  · exact ⟨by unfold oldS; rw [if_neg (by rw [h1]; decide)], h1⟩
theorem old_with {l : List Hs} (ha : AscN l) {nm nm2 : Str} {s : Samp} (hn : nm2 ≠ nm) : oldS (withL l nm s) nm2 = oldS l nm2 ∧ hasN nm2 (withL l nm s) = hasN nm2 l := by
  have ha2 := with_asc ha nm s
  by_cases h : ∃ h ∈ l, h.name = nm2
  · obtain ⟨h, hh, rfl⟩ := h
    have h1 := old_of ha hh
    have h2 := old_of ha2 ((with_mem ha).2 (.inl ⟨hh, hn⟩))
    exact ⟨h2.1.trans h1.1.symm, h2.2.trans h1.2.symm⟩
  · have h1 := old_no ha (nm := nm2) fun x hx e => h ⟨x, hx, e⟩
    have h2 := old_no ha2 (nm := nm2) fun x hx e => by
      rcases (with_mem ha).1 hx with ⟨hx, _⟩ | rfl
      · exact h ⟨x, hx, e⟩
      · exact hn e.symm
    exact ⟨h2.1.trans h1.1.symm, h2.2.trans h1.2.symm⟩
theorem hist_mild {l : List Samp} {s : Samp} (h1 : SampOk l) (h2 : 1 ≤ s.status.1 ∧ s.status.1 ≤ 3) (h3 : timeB s.time.1 = true ∧ timeB s.stamp.1 = true) (h4 : ∀ x, l.getLast? = some x → x.stamp.1 ≤ s.stamp.1) : SampOk (cutS (l ++ [s])) := by
  have hall : ∀ x ∈ l, x.stamp.1 ≤ s.stamp.1 := fun x hx => by
    have hp := h1.asc
    cases hl : l.getLast? with
    | none => rw [List.getLast?_eq_none_iff] at hl; rw [hl] at hx; exact absurd hx List.not_mem_nil
    | some y =>
      have hy := h4 y hl
      obtain ⟨ys, rfl⟩ := List.getLast?_eq_some_iff.1 hl
      rcases List.mem_append.1 hx with h | h
      · have := (List.pairwise_append.1 hp).2.2 x h y (by simp)
        omega
      · obtain rfl : x = y := by simpa using h
        exact hy
  refine ⟨fun x hx => ?_, fun x hx => ?_, ?_⟩
  · rcases List.mem_append.1 (cut_mem hx) with h | h
    · exact h1.status x h
    · obtain rfl : x = s := by simpa using h
      exact h2
  · rcases List.mem_append.1 (cut_mem hx) with h | h
    · exact h1.time x h
    · obtain rfl : x = s := by simpa using h
      exact h3
  · refine List.Pairwise.sublist (List.drop_sublist _ _) (List.pairwise_append.2 ⟨h1.asc, List.pairwise_singleton _ _, fun a ha b hb => ?_⟩)
    obtain rfl : b = s := by simpa using hb
    exact hall a ha

/-! Results are added. -/
def sampR (r : Res) (code : U64) (now : I64) : Samp := ⟨code, r.status, r.time, now⟩
def lateR (l : List Hs) (now : Int) (r : Res) : Bool := match (oldS l r.name).getLast? with | some s => decide (now < s.stamp.1) | none => false
def lateB (l : List Hs) (rs : List Res) (now : Int) : Bool := rs.any (lateR l now)
def freshN (l : List Hs) (rs : List Res) : Nat := rs.countP fun r => !hasN r.name l
def addErr (l : List Hs) (rs : List Res) (now : Int) : Int := if valErr l ≠ 0 then valErr l else if repErr rs ≠ 0 then repErr rs else if timeB now = false then 2 else if lateB l rs now = true then 22 else if 4096 < l.length + freshN l rs then 15 else 0
def addAll (l : List Hs) (rs : List Res) (code : U64) (now : I64) : List Hs := rs.foldl (fun o r => withL o r.name (sampR r code now)) l
def addL (l : List Hs) (rs : List Res) (code : U64) (now : I64) : List Hs := if addErr l rs now.1 ≠ 0 then l else addAll l rs code now
theorem all_asc {l : List Hs} {rs : List Res} {code : U64} {now : I64} (ha : AscN l) : AscN (addAll l rs code now) := by
  unfold addAll
  induction rs generalizing l with
  | nil => exact ha
  | cons r rs ih => exact ih (with_asc ha _ _)
theorem all_mem {l : List Hs} {rs : List Res} {code : U64} {now : I64} (ha : AscN l) (hn : (rs.map Res.name).Nodup) {h : Hs} : h ∈ addAll l rs code now ↔ (h ∈ l ∧ ∀ r ∈ rs, h.name ≠ r.name) ∨ ∃ r ∈ rs, h = ⟨r.name, cutS (oldS l r.name ++ [sampR r code now])⟩ := by
  unfold addAll
  induction rs generalizing l with
  | nil => simp
  | cons r rs ih =>
    rw [List.map_cons, List.nodup_cons] at hn
    have hne : ∀ q ∈ rs, q.name ≠ r.name := fun q hq e => hn.1 (List.mem_map.2 ⟨q, hq, e⟩)
    rw [List.foldl_cons, ih (with_asc ha _ _) hn.2]
    constructor
    · rintro (⟨h1, h2⟩ | ⟨q, hq, rfl⟩)
      · rcases (with_mem ha).1 h1 with ⟨h3, h4⟩ | rfl
        · refine .inl ⟨h3, fun q hq => ?_⟩
          rcases List.mem_cons.1 hq with rfl | hq
          · exact h4
          · exact h2 q hq
        · exact .inr ⟨r, by simp, rfl⟩
      · exact .inr ⟨q, by simp [hq], by rw [(old_with ha (hne q hq)).1]⟩
    · rintro (⟨h1, h2⟩ | ⟨q, hq, rfl⟩)
      · exact .inl ⟨(with_mem ha).2 (.inl ⟨h1, h2 r (by simp)⟩), fun q hq => h2 q (by simp [hq])⟩
      · rcases List.mem_cons.1 hq with rfl | hq
        · exact .inl ⟨(with_mem ha).2 (.inr rfl), fun p hp => (hne p hp).symm⟩
        · exact .inr ⟨q, hq, by rw [(old_with ha (hne q hq)).1]⟩
theorem all_len {l : List Hs} {rs : List Res} {code : U64} {now : I64} (ha : AscN l) (hn : (rs.map Res.name).Nodup) : (addAll l rs code now).length = l.length + freshN l rs := by
  unfold addAll freshN
  induction rs generalizing l with
  | nil => simp
  | cons r rs ih =>
    rw [List.map_cons, List.nodup_cons] at hn
    have hne : ∀ q ∈ rs, q.name ≠ r.name := fun q hq e => hn.1 (List.mem_map.2 ⟨q, hq, e⟩)
    rw [List.foldl_cons, ih (with_asc ha _ _) hn.2, with_len ha, List.countP_cons]
    have hc : rs.countP (fun q => !hasN q.name (withL l r.name (sampR r code now))) = rs.countP fun q => !hasN q.name l :=
      List.countP_congr fun q hq => by rw [(old_with ha (hne q hq)).2]
    rw [hc]
    cases hasN r.name l <;> simp <;> omega
theorem addErr_ok {l : List Hs} {rs : List Res} {now : Int} (h : addErr l rs now = 0) : ValH l ∧ ValR rs ∧ timeB now = true ∧ lateB l rs now = false ∧ l.length + freshN l rs ≤ 4096 := by
  unfold addErr at h
  by_cases h1 : valErr l ≠ 0
  · rw [if_pos h1] at h; exact absurd h h1
  · rw [if_neg h1] at h
    by_cases h2 : repErr rs ≠ 0
    · rw [if_pos h2] at h; exact absurd h h2
    · rw [if_neg h2] at h
      by_cases h3 : timeB now = false
      · rw [if_pos h3] at h; cases h
      · rw [if_neg h3] at h
        by_cases h4 : lateB l rs now = true
        · rw [if_pos h4] at h; cases h
        · rw [if_neg h4] at h
          by_cases h5 : 4096 < l.length + freshN l rs
          · rw [if_pos h5] at h; cases h
          · exact ⟨valid_ok.1 (Classical.not_not.1 h1), rep_ok.1 (Classical.not_not.1 h2), by simpa using h3, by simpa using h4, by omega⟩
theorem addErr_iff {l : List Hs} {rs : List Res} {now : Int} : addErr l rs now = 0 ↔ ValH l ∧ ValR rs ∧ timeB now = true ∧ lateB l rs now = false ∧ l.length + freshN l rs ≤ 4096 := by
  refine ⟨addErr_ok, fun ⟨a, b, c, d, e⟩ => ?_⟩
  unfold addErr
  rw [if_neg (Classical.not_not.2 (valid_ok.2 a)), if_neg (Classical.not_not.2 (rep_ok.2 b)), if_neg (by rw [c]; decide), if_neg (by rw [d]; decide), if_neg (by omega)]
/-- What was added is valid. -/
theorem add_val {l : List Hs} {rs : List Res} {code : U64} {now : I64} (h : addErr l rs now.1 = 0) : ValH (addAll l rs code now) := by
  obtain ⟨hv, hr, ht, hl, hc⟩ := addErr_ok h
  refine ⟨by rw [all_len hv.asc hr.nodup]; exact hc, fun x hx => ?_, all_asc hv.asc⟩
  rcases (all_mem hv.asc hr.nodup).1 hx with ⟨h1, _⟩ | ⟨r, hm, rfl⟩
  · exact hv.each x h1
  · obtain ⟨hp, hs, hq⟩ := hr.each r hm
    refine ⟨hp, cut_len _, hist_mild ?_ hs ⟨hq, ht⟩ fun y hy => ?_⟩
    · by_cases he : ∃ g ∈ l, g.name = r.name
      · obtain ⟨g, hg, e⟩ := he
        rw [← e, (old_of hv.asc hg).1]
        exact (hv.each g hg).samp
      · rw [(old_no hv.asc fun g hg e => he ⟨g, hg, e⟩).1]
        exact ⟨fun _ h => absurd h List.not_mem_nil, fun _ h => absurd h List.not_mem_nil, .nil⟩
    · have h2 : lateR l now.1 r = false := by
        unfold lateB at hl
        rw [List.any_eq_false] at hl
        simpa using hl r hm
      unfold lateR at h2
      rw [hy] at h2
      have h3 : ¬ now.1 < y.stamp.1 := by simpa using h2
      show y.stamp.1 ≤ now.1
      omega
/-- The order of the results does not matter. -/
theorem add_turn {l : List Hs} {rs back : List Res} (hp : rs.Perm back) {now : I64} : addErr l rs now.1 = 0 ↔ addErr l back now.1 = 0 := by
  rw [addErr_iff, addErr_iff]
  have h1 : ValR rs ↔ ValR back := by
    constructor
    · rintro ⟨a, b, c⟩
      exact ⟨by rw [← hp.length_eq]; exact a, fun r hr => b r (hp.mem_iff.2 hr), (hp.map Res.name).nodup_iff.1 c⟩
    · rintro ⟨a, b, c⟩
      exact ⟨by rw [hp.length_eq]; exact a, fun r hr => b r (hp.mem_iff.1 hr), (hp.map Res.name).nodup_iff.2 c⟩
  have h2 : lateB l rs now.1 = lateB l back now.1 := by
    unfold lateB
    rw [Bool.eq_iff_iff, List.any_eq_true, List.any_eq_true]
    exact ⟨fun ⟨r, hr, e⟩ => ⟨r, hp.mem_iff.1 hr, e⟩, fun ⟨r, hr, e⟩ => ⟨r, hp.mem_iff.2 hr, e⟩⟩
  have h3 : freshN l rs = freshN l back := hp.countP_eq _
  rw [h1, h2, h3]
theorem all_turn {l : List Hs} {rs back : List Res} (hp : rs.Perm back) (ha : AscN l) (hn : (rs.map Res.name).Nodup) (code : U64) (now : I64) : addAll l rs code now = addAll l back code now := by
  refine asc_ext (all_asc ha) (all_asc ha) fun h => ?_
  rw [all_mem ha hn, all_mem ha ((hp.map Res.name).nodup_iff.1 hn)]
  constructor
  · rintro (⟨h1, h2⟩ | ⟨r, hr, e⟩)
    · exact .inl ⟨h1, fun r hr => h2 r (hp.mem_iff.2 hr)⟩
    · exact .inr ⟨r, hp.mem_iff.1 hr, e⟩
  · rintro (⟨h1, h2⟩ | ⟨r, hr, e⟩)
    · exact .inl ⟨h1, fun r hr => h2 r (hp.mem_iff.1 hr)⟩
    · exact .inr ⟨r, hp.mem_iff.2 hr, e⟩
end Go.Proofs.YtdjepnilmgembaaGreatDoor

namespace Go.Proofs.YtdjepnilmgembaaGreatDoor
open Go.RowKit

def lessB (a b : Int) : Bool := decide (a ≤ b)
def srtI (l : List Int) : List Int := l.mergeSort lessB
/-- The lower median; 0 if there is none. -/
def medI (l : List Int) : Int := if l = [] then 0 else (srtI l)[(l.length - 1) / 2]!
def UpI (l : List Int) : Prop := l.Pairwise fun a b => a ≤ b
theorem srt_up (l : List Int) : UpI (srtI l) := by
  have h := List.pairwise_mergeSort (le := lessB) (fun a b c h1 h2 => by unfold lessB at *; simp at *; omega) (fun a b => by unfold lessB; simp; omega) l
  exact h.imp fun h => by unfold lessB at h; simpa using h
theorem srt_perm (l : List Int) : (srtI l).Perm l := List.mergeSort_perm _ _
theorem up_one : ∀ {l m : List Int}, l.Perm m → UpI l → UpI m → l = m := by
  intro l
  induction l with
  | nil => intro m hp _ _; exact hp.nil_eq
  | cons a l ih =>
    intro m hp h1 h2
    cases m with
    | nil => exact absurd hp.length_eq (by simp)
    | cons b m =>
      have h3 := List.pairwise_cons.1 h1
      have h4 := List.pairwise_cons.1 h2
      have e : a = b := by
        rcases List.mem_cons.1 (hp.mem_iff.1 (show a ∈ a :: l by simp)) with e | ha
        · exact e
        · rcases List.mem_cons.1 (hp.mem_iff.2 (show b ∈ b :: m by simp)) with e | hb
          · exact e.symm
          · have x1 := h4.1 a ha
            have x2 := h3.1 b hb
            omega
      subst e
      rw [ih ((List.perm_cons a).1 hp) h3.2 h4.2]
/-- A sorted list of the same numbers has the median in its middle. -/
theorem med_of {l s : List Int} (hp : s.Perm l) (hs : UpI s) (hn : l ≠ []) : s[(l.length - 1) / 2]? = some (medI l) := by
  have e : s = srtI l := up_one (hp.trans (srt_perm l).symm) hs (srt_up l)
  have hl : s.length = l.length := hp.length_eq
  have h0 : 0 < l.length := List.length_pos_iff.2 hn
  obtain ⟨x, hx⟩ := get_some (show (l.length - 1) / 2 < s.length by omega)
  unfold medI
  rw [if_neg hn, ← e, get_bang hx, hx]
/-- A number put into a sorted list where it belongs. -/
theorem up_put {A B : List Int} {n : Int} (h : UpI (A ++ B)) (hA : ∀ a ∈ A, a ≤ n) (hB : ∀ b ∈ B, n ≤ b) : UpI (A ++ n :: B) := by
  unfold UpI at *
  rw [List.pairwise_append] at h ⊢
  rw [List.pairwise_cons]
  refine ⟨h.1, ⟨hB, h.2.1⟩, fun a ha b hb => ?_⟩
  rcases List.mem_cons.1 hb with rfl | hb
  · exact hA a ha
  · exact h.2.2 a ha b hb
/-- At least half of the numbers are not greater than the median, and less than half are smaller. -/
theorem med_half {l : List Int} (hn : l ≠ []) : 2 * l.countP (fun x => decide (x < medI l)) < l.length ∧ l.length ≤ 2 * l.countP fun x => decide (x ≤ medI l) := by
  have hp := srt_perm l
  have hs := srt_up l
  have hm := med_of hp hs hn
  have hl : (srtI l).length = l.length := hp.length_eq
  have h0 : 0 < l.length := List.length_pos_iff.2 hn
  obtain ⟨hk, e⟩ := List.getElem?_eq_some_iff.1 hm
  have hsplit : srtI l = (srtI l).take ((l.length - 1) / 2) ++ (srtI l).drop ((l.length - 1) / 2) := (List.take_append_drop _ _).symm
  have hle : ∀ j, (l.length - 1) / 2 ≤ j → ∀ x, (srtI l)[j]? = some x → medI l ≤ x := fun j hj x hx => by
    obtain ⟨hj2, e2⟩ := List.getElem?_eq_some_iff.1 hx
    rcases Nat.lt_or_eq_of_le hj with h | h
    · rw [← e, ← e2]
      exact List.pairwise_iff_getElem.1 hs _ _ hk hj2 h
    · subst h
      rw [hm] at hx
      obtain rfl : medI l = x := by simpa using hx
      omega
  have hge : ∀ j, j ≤ (l.length - 1) / 2 → ∀ x, (srtI l)[j]? = some x → x ≤ medI l := fun j hj x hx => by
    obtain ⟨hj2, e2⟩ := List.getElem?_eq_some_iff.1 hx
    rcases Nat.lt_or_eq_of_le hj with h | h
    · rw [← e, ← e2]
      exact List.pairwise_iff_getElem.1 hs _ _ hj2 hk h
    · subst h
      rw [hm] at hx
      obtain rfl : medI l = x := by simpa using hx
      omega
  constructor
  · rw [← hp.countP_eq, hsplit, List.countP_append]
    have h1 : ((srtI l).drop ((l.length - 1) / 2)).countP (fun x => decide (x < medI l)) = 0 := by
      rw [List.countP_eq_zero]
      intro x hx
      obtain ⟨j, hj⟩ := List.getElem?_of_mem hx
      rw [List.getElem?_drop] at hj
      have := hle _ (Nat.le_add_right _ j) x hj
      simp only [decide_eq_true_eq]
      omega
    have h2 : ((srtI l).take ((l.length - 1) / 2)).countP (fun x => decide (x < medI l)) ≤ ((srtI l).take ((l.length - 1) / 2)).length := List.countP_le_length
    rw [h1, List.length_take] at *
    omega
  · have hsplit2 : srtI l = (srtI l).take ((l.length - 1) / 2 + 1) ++ (srtI l).drop ((l.length - 1) / 2 + 1) := (List.take_append_drop _ _).symm
    rw [← hp.countP_eq, hsplit2, List.countP_append]
    have h1 : ((srtI l).take ((l.length - 1) / 2 + 1)).countP (fun x => decide (x ≤ medI l)) = ((srtI l).take ((l.length - 1) / 2 + 1)).length := by
      rw [List.countP_eq_length]
      intro x hx
      obtain ⟨j, hj⟩ := List.getElem?_of_mem hx
      rw [List.getElem?_take] at hj
      split at hj
      · rename_i h
        have := hge j (by omega) x hj
        simpa using this
      · cases hj
    rw [h1, List.length_take]
    omega
/-- The measured times of samples; the failures among 1000 of them. -/
def isM (s : Samp) : Bool := decide (s.status.1 = 1) || decide (s.status.1 = 2)
def measT (l : List Samp) : List Int := (l.filter isM).map fun s => s.time.1
def badN (l : List Samp) : Nat := l.countP fun s => decide (s.status.1 = 2)
def timeI (l : List Samp) : Int := medI (measT l)
def rateI (l : List Samp) : Int := if measT l = [] then 0 else 1000 * (badN l : Int) / ((measT l).length : Int)
theorem bad_le (l : List Samp) : badN l ≤ (measT l).length := by
  unfold badN measT
  rw [List.length_map, ← List.countP_eq_length_filter]
  exact List.countP_mono_left fun s _ h => by unfold isM; rw [h, Bool.or_true]
theorem bad_meas (l : List Samp) : (l.filter isM).countP (fun s => decide (s.status.1 = 2)) = badN l := by
  unfold badN
  rw [List.countP_filter]
  exact List.countP_congr fun s _ => by unfold isM; simp; intro h; exact .inr h
theorem rate_in (l : List Samp) : 0 ≤ rateI l ∧ rateI l ≤ 1000 := by
  unfold rateI
  split
  · omega
  · rename_i h
    have h1 := bad_le l
    have h0 : 0 < (measT l).length := List.length_pos_iff.2 h
    constructor
    · exact Int.ediv_nonneg (by omega) (by omega)
    · have : 1000 * (badN l : Int) ≤ 1000 * ((measT l).length : Int) := by omega
      exact Int.le_of_lt_add_one ((Int.ediv_lt_iff_lt_mul (by omega)).2 (by omega))
end Go.Proofs.YtdjepnilmgembaaGreatDoor
