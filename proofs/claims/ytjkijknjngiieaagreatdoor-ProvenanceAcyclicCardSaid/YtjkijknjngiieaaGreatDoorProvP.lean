/-
  Histories of tests: what the calls compute (plain).
  Provenance: links, the errors of an addition, what is reached (plain).
  Provenance: chains and sources; of links that were added one by one (plain).
  Provenance: no name is a file input's and an artifact's; marks that are closed are what is reached (plain).
  Provenance: marks while they are set, by a stack and by rounds (plain).
  Provenance: names, files and errors, step by step (plain).
  The readings of outputs and links.
-/
import Derived.Test.YtjkijknjngiieaaGreatDoorNames4
import Derived.Test.YtjkijknjngiieaaGreatDoorComm0
import Derived.Test.YtjkijknjngiieaaGreatDoorStab

namespace Go.Proofs.YtjkijknjngiieaaGreatDoor
open Go.RowKit

theorem get_bang {α : Type} [Inhabited α] {l : List α} {k : Nat} {x : α} (h : l[k]? = some x) : l[k]! = x := by
  rw [getElem!_def, h]
abbrev U64 : Type := { n : Int // 0 ≤ n ∧ n ≤ 18446744073709551615 }
instance : Inhabited U64 := ⟨⟨0, by omega⟩⟩
structure Samp where
  code : U64
  status : I64
  time : I64
  stamp : I64
deriving DecidableEq, Inhabited
structure Hs where
  name : Str
  l : List Samp
deriving DecidableEq, Inhabited
structure Res where
  name : Str
  status : I64
  time : I64
deriving DecidableEq, Inhabited
theorem bsr_yes {q : Nat → Bool} {i j : Nat} (h : i < j) (hq : q ((i + j) / 2) = true) : bsr q i j = bsr q ((i + j) / 2 + 1) j := by rw [bsr, dif_pos h, if_pos hq]
theorem bsr_no {q : Nat → Bool} {i j : Nat} (h : i < j) (hq : q ((i + j) / 2) = false) : bsr q i j = bsr q i ((i + j) / 2) := by rw [bsr, dif_pos h, if_neg (by rw [hq]; decide)]
theorem bsr_end {q : Nat → Bool} {i j : Nat} (h : ¬ i < j) : bsr q i j = i := by rw [bsr, dif_neg h]
def isName (p : Str) (x : Hs) : Bool := x.name.1.toList == p.1.toList
/-- The place of a name, -1 if there is none. -/
def findN (p : Str) (l : List Hs) : Int := if l.findIdx (isName p) < l.length then (l.findIdx (isName p) : Int) else -1
theorem findIdx_at {α : Type} {p : α → Bool} {l : List α} {k : Nat} {x : α} (h : (l.take k).all (fun y => !p y) = true) (hx : l[k]? = some x) (hp : p x = true) : l.findIdx p = k := by
  obtain ⟨hk, rfl⟩ := List.getElem?_eq_some_iff.1 hx
  refine (List.findIdx_eq hk).2 ⟨hp, fun j hj => ?_⟩
  have := List.all_eq_true.1 h (l[j]'(by omega)) (by rw [List.mem_take_iff_getElem]; exact ⟨j, by omega, rfl⟩)
  simpa using this
theorem findN_at {p : Str} {l : List Hs} {k : Nat} {x : Hs} (h : (l.take k).all (fun y => !isName p y) = true) (hx : l[k]? = some x) (hp : isName p x = true) : findN p l = k := by
  have hk := (List.getElem?_eq_some_iff.1 hx).1
  unfold findN
  rw [findIdx_at h hx hp, if_pos hk]
theorem findN_none {p : Str} {l : List Hs} (h : l.all (fun y => !isName p y) = true) : findN p l = -1 := by
  unfold findN
  rw [if_neg]
  rw [List.findIdx_lt_length]
  rintro ⟨x, hx, hp⟩
  have := List.all_eq_true.1 h x hx
  rw [hp] at this; cases this
/-- Where a name is, or would be put; whether it is there; how many stand ahead of it. -/
def atN (p : Str) (l : List Hs) : Nat := bsr (fun h => decide (cmpS l[h]!.name p < 0)) 0 l.length
def hasN (p : Str) (l : List Hs) : Bool := decide (atN p l < l.length) && decide (cmpS l[atN p l]!.name p = 0)
def plN (p : Str) (l : List Hs) : Nat := (l.takeWhile fun y => decide (cmpS y.name p < 0)).length
theorem plN_at {p : Str} {l : List Hs} {k : Nat} (hk : k ≤ l.length) (ht : ∀ j y, j < k → l[j]? = some y → cmpS y.name p < 0) (hf : ∀ y, l[k]? = some y → ¬ cmpS y.name p < 0) : plN p l = k := by
  unfold plN
  induction l generalizing k with
  | nil => simp at hk; subst hk; rfl
  | cons a l ih =>
    rcases k with _ | k
    · have := hf a rfl
      rw [List.takeWhile_cons_of_neg (by simpa using this)]; rfl
    · have h0 := ht 0 a (by omega) rfl
      rw [List.takeWhile_cons_of_pos (by simpa using h0), List.length_cons, ih (by simpa using hk) (fun j y hj hy => ht (j + 1) y (by omega) hy) (fun y hy => hf y hy)]
theorem plN_le (p : Str) (l : List Hs) : plN p l ≤ l.length := (List.takeWhile_prefix _).length_le
/-- Each name comes behind the ones before. -/
def AscN (l : List Hs) : Prop := ∀ (i j : Nat) (x y : Hs), i < j → l[i]? = some x → l[j]? = some y → cmpS x.name y.name < 0
theorem asc_of_steps {l : List Hs} (h : ∀ (k : Nat) (x y : Hs), l[k + 1]? = some x → l[k]? = some y → cmpS y.name x.name < 0) : AscN l := by
  intro i j
  induction j with
  | zero => intro x y hij; omega
  | succ j ih =>
    intro x y hij hx hy
    obtain ⟨z, hz⟩ := get_some (show j < l.length by have := (List.getElem?_eq_some_iff.1 hy).1; omega)
    have h1 := h j y z hy hz
    by_cases e : i = j
    · subst e
      rw [hx] at hz
      obtain rfl : x = z := by simpa using hz
      exact h1
    · exact ord_str.trans _ _ _ (ih x z (by omega) hx hz) h1
theorem atN_spec {l : List Hs} (ha : AscN l) (p : Str) : atN p l ≤ l.length ∧ (∀ j y, j < atN p l → l[j]? = some y → cmpS y.name p < 0) ∧ (∀ j y, atN p l ≤ j → l[j]? = some y → ¬ cmpS y.name p < 0) := by
  obtain ⟨_, h2, h3, h4⟩ := bsr_spec (fun h => decide (cmpS l[h]!.name p < 0)) l.length 0 l.length (by omega) (Nat.zero_le _) (fun c c' _ hcc hc' hq => by
    obtain ⟨x, hx⟩ := get_some (show c < l.length by omega)
    obtain ⟨y, hy⟩ := get_some hc'
    simp only [get_bang hx, get_bang hy, decide_eq_false_iff_not] at hq ⊢
    rcases Nat.lt_or_eq_of_le hcc with hlt | rfl
    · exact fun h => hq (ord_str.trans _ _ _ (ha c c' x y hlt hx hy) h)
    · rw [hx] at hy
      obtain rfl : x = y := by simpa using hy
      exact hq)
  refine ⟨h2, fun j y hj hy => ?_, fun j y hj hy => ?_⟩
  · have := h3 j (Nat.zero_le _) hj
    simpa [get_bang hy] using this
  · have := h4 j hj (List.getElem?_eq_some_iff.1 hy).1
    simpa [get_bang hy] using this
theorem isName_iff {p : Str} {x : Hs} : isName p x = true ↔ x.name = p := by unfold isName; rw [eq_str, decide_eq_true_eq]
theorem cmp_ne {a b : Str} (h : cmpS a b < 0) : a ≠ b := fun e => by rw [(ord_str.zero a b).2 e] at h; omega
/-- Where a name is: found by both, or by neither. -/
theorem find_cases {l : List Hs} (ha : AscN l) (p : Str) : (hasN p l = true ∧ findN p l = (atN p l : Int) ∧ ∃ x, l[atN p l]? = some x ∧ x.name = p) ∨ (hasN p l = false ∧ findN p l = -1 ∧ plN p l = atN p l ∧ atN p l ≤ l.length ∧ ∀ x ∈ l, x.name ≠ p) := by
  obtain ⟨h1, h2, h3⟩ := atN_spec ha p
  by_cases hlt : atN p l < l.length
  · obtain ⟨x, hx⟩ := get_some hlt
    by_cases hz : cmpS x.name p = 0
    · have hxp := (ord_str.zero _ _).1 hz
      refine Or.inl ⟨?_, ?_, x, hx, hxp⟩
      · unfold hasN; rw [get_bang hx, hz, decide_eq_true hlt]; rfl
      · refine findN_at ?_ hx (isName_iff.2 hxp)
        rw [List.all_eq_true]
        intro y hy
        obtain ⟨j, hj⟩ := List.getElem?_of_mem hy
        rw [List.getElem?_take] at hj
        split at hj
        · rename_i hjl
          have := cmp_ne (h2 j y hjl hj)
          rw [Bool.not_eq_true', ← Bool.not_eq_true]
          exact fun e => this (isName_iff.1 e)
        · cases hj
    · have hgt : cmpS p x.name < 0 := by have := h3 _ x (Nat.le_refl _) hx; rw [ord_str.neg x.name p]; omega
      have hno : ∀ y ∈ l, y.name ≠ p := fun y hy e => by
        obtain ⟨j, hj⟩ := List.getElem?_of_mem hy
        rcases Nat.lt_trichotomy j (atN p l) with h | h | h
        · exact cmp_ne (h2 j y h hj) e
        · subst h
          rw [hx] at hj
          obtain rfl : x = y := by simpa using hj
          exact hz ((ord_str.zero _ _).2 e)
        · exact cmp_ne (ord_str.trans _ _ _ hgt (ha _ _ x y h hx hj)) e.symm
      refine Or.inr ⟨?_, ?_, ?_, h1, hno⟩
      · unfold hasN; rw [get_bang hx, decide_eq_false hz, Bool.and_false]
      · refine findN_none ?_
        rw [List.all_eq_true]
        intro y hy
        rw [Bool.not_eq_true', ← Bool.not_eq_true]
        exact fun e => hno y hy (isName_iff.1 e)
      · exact plN_at h1 (fun j y hj hy => h2 j y hj hy) (fun y hy => h3 _ y (Nat.le_refl _) hy)
  · have hno : ∀ y ∈ l, y.name ≠ p := fun y hy e => by
      obtain ⟨j, hj⟩ := List.getElem?_of_mem hy
      have := (List.getElem?_eq_some_iff.1 hj).1
      exact cmp_ne (h2 j y (by omega) hj) e
    refine Or.inr ⟨?_, ?_, ?_, h1, hno⟩
    · unfold hasN; rw [decide_eq_false hlt]; rfl
    · refine findN_none ?_
      rw [List.all_eq_true]
      intro y hy
      rw [Bool.not_eq_true', ← Bool.not_eq_true]
      exact fun e => hno y hy (isName_iff.1 e)
    · exact plN_at h1 (fun j y hj hy => h2 j y hj hy) (fun y hy => h3 _ y (Nat.le_refl _) hy)
def timeB (n : Int) : Bool := decide (0 ≤ n) && decide (n ≤ 1125899906842624)
/-- The error of a sample behind a time; of samples behind one. -/
def smpErr (s : Samp) (last : Int) : Int := if s.status.1 < 1 ∨ 3 < s.status.1 then 1 else if timeB s.time.1 = false ∨ timeB s.stamp.1 = false then 2 else if s.stamp.1 < last then 22 else 0
def smpsErr : Int → List Samp → Int
  | _, [] => 0
  | last, s :: l => if smpErr s last = 0 then smpsErr s.stamp.1 l else smpErr s last
/-- Whether a name comes behind another one, if there is one. -/
def behindB (p : Option Str) (n : Str) : Bool := match p with | some q => decide (cmpS q n < 0) | none => true
def hisErr (p : Option Str) (h : Hs) : Int := if pathB h.name = false then 1 else if behindB p h.name = false then 22 else if 32 < h.l.length then 15 else smpsErr 0 h.l
def hissErr : Option Str → List Hs → Int
  | _, [] => 0
  | p, h :: l => if hisErr p h = 0 then hissErr (some h.name) l else hisErr p h
def valErr (l : List Hs) : Int := if 4096 < l.length then 15 else hissErr none l
def hasS (l : List Str) (s : Str) : Bool := l.any fun x => decide (x = s)
theorem hasS_iff {l : List Str} {s : Str} : hasS l s = true ↔ s ∈ l := by
  unfold hasS
  rw [List.any_eq_true]
  constructor
  · rintro ⟨x, hx, e⟩
    have : x = s := by simpa using e
    exact this ▸ hx
  · exact fun h => ⟨s, h, by simp⟩
/-- The error of a result behind names; of results behind some. -/
def resErr (seen : List Str) (r : Res) : Int := if pathB r.name = false ∨ r.status.1 < 1 ∨ 3 < r.status.1 then 1 else if timeB r.time.1 = false then 2 else if hasS seen r.name = true then 7 else 0
def ressErr : List Str → List Res → Int
  | _, [] => 0
  | seen, r :: l => if resErr seen r = 0 then ressErr (seen ++ [r.name]) l else resErr seen r
def repErr (l : List Res) : Int := if 4096 < l.length then 15 else ressErr [] l

/-! Valid histories and results, by their elements. -/
structure SampOk (l : List Samp) : Prop where
  status : ∀ s ∈ l, 1 ≤ s.status.1 ∧ s.status.1 ≤ 3
  time : ∀ s ∈ l, timeB s.time.1 = true ∧ timeB s.stamp.1 = true
  asc : l.Pairwise fun a b => a.stamp.1 ≤ b.stamp.1
theorem timeB_iff {n : Int} : timeB n = true ↔ 0 ≤ n ∧ n ≤ 1125899906842624 := by unfold timeB; simp
theorem smpErr_ok {s : Samp} {last : Int} : smpErr s last = 0 ↔ (1 ≤ s.status.1 ∧ s.status.1 ≤ 3) ∧ (timeB s.time.1 = true ∧ timeB s.stamp.1 = true) ∧ last ≤ s.stamp.1 := by
  unfold smpErr
  by_cases h1 : s.status.1 < 1 ∨ 3 < s.status.1
  · rw [if_pos h1]
    exact ⟨fun h => (by cases h), fun h => by omega⟩
  · rw [if_neg h1]
    by_cases h2 : timeB s.time.1 = false ∨ timeB s.stamp.1 = false
    · rw [if_pos h2]
      refine ⟨fun h => (by cases h), fun h => ?_⟩
      rcases h2 with h2 | h2
      · rw [h.2.1.1] at h2; cases h2
      · rw [h.2.1.2] at h2; cases h2
    · rw [if_neg h2]
      have h3 : timeB s.time.1 = true ∧ timeB s.stamp.1 = true := by
        constructor
        · cases h : timeB s.time.1 with
          | true => rfl
          | false => exact absurd (.inl h) h2
        · cases h : timeB s.stamp.1 with
          | true => rfl
          | false => exact absurd (.inr h) h2
      by_cases h4 : s.stamp.1 < last
      · rw [if_pos h4]
        exact ⟨fun h => (by cases h), fun h => by omega⟩
      · rw [if_neg h4]
        exact ⟨fun _ => ⟨by omega, h3, by omega⟩, fun _ => rfl⟩
theorem smpsErr_ok : ∀ {l : List Samp} {last : Int}, smpsErr last l = 0 ↔ SampOk l ∧ ∀ s ∈ l, last ≤ s.stamp.1
  | [], last => ⟨fun _ => ⟨⟨(fun _ h => absurd h List.not_mem_nil), (fun _ h => absurd h List.not_mem_nil), .nil⟩, (fun _ h => absurd h List.not_mem_nil)⟩, fun _ => rfl⟩
  | s :: l, last => by
    unfold smpsErr
    have ih := @smpsErr_ok l s.stamp.1
    by_cases h : smpErr s last = 0
    · rw [if_pos h, ih]
      obtain ⟨h1, h2, h3⟩ := smpErr_ok.1 h
      constructor
      · rintro ⟨⟨a, b, c⟩, d⟩
        refine ⟨⟨fun x hx => ?_, fun x hx => ?_, List.pairwise_cons.2 ⟨d, c⟩⟩, fun x hx => ?_⟩
        · rcases List.mem_cons.1 hx with rfl | hx
          · exact h1
          · exact a x hx
        · rcases List.mem_cons.1 hx with rfl | hx
          · exact h2
          · exact b x hx
        · rcases List.mem_cons.1 hx with rfl | hx
          · exact h3
          · have := d x hx; omega
      · rintro ⟨⟨a, b, c⟩, _⟩
        rw [List.pairwise_cons] at c
        exact ⟨⟨fun x hx => a x (List.mem_cons_of_mem _ hx), fun x hx => b x (List.mem_cons_of_mem _ hx), c.2⟩, c.1⟩
    · rw [if_neg h]
      refine ⟨fun h2 => absurd h2 h, fun h2 => ?_⟩
      exact smpErr_ok.2 ⟨h2.1.status s (by simp), h2.1.time s (by simp), h2.2 s (by simp)⟩
structure HistOk (h : Hs) : Prop where
  path : pathB h.name = true
  len : h.l.length ≤ 32
  samp : SampOk h.l
structure ValH (l : List Hs) : Prop where
  len : l.length ≤ 4096
  each : ∀ h ∈ l, HistOk h
  asc : AscN l
theorem hisErr_ok {p : Option Str} {h : Hs} : hisErr p h = 0 ↔ HistOk h ∧ ∀ q, p = some q → cmpS q h.name < 0 := by
  unfold hisErr
  by_cases h1 : pathB h.name = false
  · rw [if_pos h1]
    exact ⟨fun e => (by cases e), fun e => by rw [e.1.path] at h1; cases h1⟩
  · rw [if_neg h1]
    have h1' : pathB h.name = true := by simpa using h1
    have hq : (behindB p h.name = false) ↔ ¬ ∀ q, p = some q → cmpS q h.name < 0 := by
      unfold behindB
      cases p with
      | none => simp
      | some q => simp
    by_cases h2 : behindB p h.name = false
    · rw [if_pos h2]
      exact ⟨fun e => (by cases e), fun e => absurd e.2 (hq.1 h2)⟩
    · rw [if_neg h2]
      have h2' : ∀ q, p = some q → cmpS q h.name < 0 := Classical.not_not.1 (fun e => h2 (hq.2 e))
      by_cases h3 : 32 < h.l.length
      · rw [if_pos h3]
        exact ⟨fun e => (by cases e), fun e => by have := e.1.len; omega⟩
      · rw [if_neg h3, smpsErr_ok]
        constructor
        · rintro ⟨a, _⟩
          exact ⟨⟨h1', by omega, a⟩, h2'⟩
        · rintro ⟨a, _⟩
          exact ⟨a.samp, fun s hs => (timeB_iff.1 (a.samp.time s hs).2).1⟩
theorem hissErr_ok : ∀ {l : List Hs} {p : Option Str}, hissErr p l = 0 ↔ (∀ h ∈ l, HistOk h) ∧ AscN l ∧ ∀ q x, p = some q → l[0]? = some x → cmpS q x.name < 0
  | [], p => ⟨fun _ => ⟨(fun _ h => absurd h List.not_mem_nil), fun i j x y _ h => by simp at h, fun q x _ h => by simp at h⟩, fun _ => rfl⟩
  | h :: l, p => by
    unfold hissErr
    have ih := @hissErr_ok l (some h.name)
    by_cases h0 : hisErr p h = 0
    · rw [if_pos h0, ih]
      obtain ⟨h1, h2⟩ := hisErr_ok.1 h0
      constructor
      · rintro ⟨a, b, c⟩
        refine ⟨fun x hx => ?_, asc_of_steps fun k x y hx hy => ?_, fun q x hq hx => ?_⟩
        · rcases List.mem_cons.1 hx with rfl | hx
          · exact h1
          · exact a x hx
        · rcases k with _ | k
          · obtain rfl : h = y := by simpa using hy
            exact c h.name x rfl (by simpa using hx)
          · exact b k (k + 1) y x (by omega) (by simpa using hy) (by simpa using hx)
        · obtain rfl : h = x := by simpa using hx
          exact h2 q hq
      · rintro ⟨a, b, _⟩
        refine ⟨fun x hx => a x (List.mem_cons_of_mem _ hx), fun i j x y hij hx hy => b (i + 1) (j + 1) x y (by omega) (by simpa using hx) (by simpa using hy), fun q x hq hx => ?_⟩
        obtain rfl : h.name = q := by simpa using hq
        exact b 0 1 h x (by omega) rfl (by simpa using hx)
    · rw [if_neg h0]
      refine ⟨fun h2 => absurd h2 h0, fun ⟨a, _, c⟩ => hisErr_ok.2 ⟨a h (by simp), fun q hq => c q h hq rfl⟩⟩
theorem valid_ok {l : List Hs} : valErr l = 0 ↔ ValH l := by
  unfold valErr
  by_cases h : 4096 < l.length
  · rw [if_pos h]
    exact ⟨fun e => (by cases e), fun e => by have := e.len; omega⟩
  · rw [if_neg h, hissErr_ok]
    constructor
    · rintro ⟨a, b, _⟩
      exact ⟨by omega, a, b⟩
    · rintro ⟨_, a, b⟩
      exact ⟨a, b, fun q x hq => by cases hq⟩
/-- A result as it ought to be. -/
def ResOk (r : Res) : Prop := pathB r.name = true ∧ (1 ≤ r.status.1 ∧ r.status.1 ≤ 3) ∧ timeB r.time.1 = true
theorem resErr_ok {seen : List Str} {r : Res} : resErr seen r = 0 ↔ ResOk r ∧ r.name ∉ seen := by
  unfold resErr ResOk
  by_cases h1 : pathB r.name = false ∨ r.status.1 < 1 ∨ 3 < r.status.1
  · rw [if_pos h1]
    refine ⟨fun e => (by cases e), fun e => ?_⟩
    rcases h1 with h1 | h1
    · rw [e.1.1] at h1; cases h1
    · omega
  · rw [if_neg h1]
    have hp : pathB r.name = true := by
      cases h : pathB r.name with
      | true => rfl
      | false => exact absurd (.inl h) h1
    by_cases h2 : timeB r.time.1 = false
    · rw [if_pos h2]
      exact ⟨fun e => (by cases e), fun e => by rw [e.1.2.2] at h2; cases h2⟩
    · rw [if_neg h2]
      have h2' : timeB r.time.1 = true := by simpa using h2
      by_cases h3 : hasS seen r.name = true
      · rw [if_pos h3]
        exact ⟨fun e => (by cases e), fun e => absurd (hasS_iff.1 h3) e.2⟩
      · rw [if_neg h3]
        exact ⟨fun _ => ⟨⟨hp, by omega, h2'⟩, fun h => h3 (hasS_iff.2 h)⟩, fun _ => rfl⟩
theorem ressErr_ok : ∀ {l : List Res} {seen : List Str}, ressErr seen l = 0 ↔ (∀ r ∈ l, ResOk r) ∧ (l.map Res.name).Nodup ∧ ∀ r ∈ l, r.name ∉ seen
  | [], seen => ⟨fun _ => ⟨(fun _ h => absurd h List.not_mem_nil), by simp, (fun _ h => absurd h List.not_mem_nil)⟩, fun _ => rfl⟩
  | r :: l, seen => by
    unfold ressErr
    have ih := @ressErr_ok l (seen ++ [r.name])
    by_cases h0 : resErr seen r = 0
    · rw [if_pos h0, ih]
      obtain ⟨h1, h2⟩ := resErr_ok.1 h0
      rw [List.map_cons, List.nodup_cons]
      constructor
      · rintro ⟨a, b, c⟩
        refine ⟨fun x hx => ?_, ⟨fun hm => ?_, b⟩, fun x hx => ?_⟩
        · rcases List.mem_cons.1 hx with rfl | hx
          · exact h1
          · exact a x hx
        · obtain ⟨y, hy, e⟩ := List.mem_map.1 hm
          exact c y hy (by rw [e]; simp)
        · rcases List.mem_cons.1 hx with rfl | hx
          · exact h2
          · exact fun h => c x hx (by simp [h])
      · rintro ⟨a, ⟨b1, b2⟩, c⟩
        refine ⟨fun x hx => a x (List.mem_cons_of_mem _ hx), b2, fun x hx h => ?_⟩
        rcases List.mem_append.1 h with h | h
        · exact c x (List.mem_cons_of_mem _ hx) h
        · exact b1 (List.mem_map.2 ⟨x, hx, by simpa using h⟩)
    · rw [if_neg h0]
      exact ⟨fun h2 => absurd h2 h0, fun ⟨a, _, c⟩ => resErr_ok.2 ⟨a r (by simp), c r (by simp)⟩⟩
structure ValR (l : List Res) : Prop where
  len : l.length ≤ 4096
  each : ∀ r ∈ l, ResOk r
  nodup : (l.map Res.name).Nodup
theorem rep_ok {l : List Res} : repErr l = 0 ↔ ValR l := by
  unfold repErr
  by_cases h : 4096 < l.length
  · rw [if_pos h]
    exact ⟨fun e => (by cases e), fun e => by have := e.len; omega⟩
  · rw [if_neg h, ressErr_ok]
    exact ⟨fun ⟨a, b, _⟩ => ⟨by omega, a, b⟩, fun e => ⟨e.each, e.nodup, fun _ _ h => absurd h List.not_mem_nil⟩⟩
end Go.Proofs.YtjkijknjngiieaaGreatDoor

namespace Go.Proofs.YtjkijknjngiieaaGreatDoor
open Go.RowKit

structure OutR where
  name : Str
  digest : U64
  size : I64
deriving DecidableEq, Inhabited
structure Lnk where
  run : Str
  job : Str
  attempt : I64
  spec : U64
  ins : List OutR
  out : OutR
deriving DecidableEq, Inhabited
def joinS (a b : Str) : Str := mkS (a.1.data.toList ++ 47 :: b.1.data.toList)
def nameL (l : Lnk) : Str := joinS l.job l.out.name
/-- The path of a file input. -/
def fileS (s : Str) : Option Str := if s.1.data.toList.take 5 = [102, 105, 108, 101, 58] ∧ pathB (mkS (s.1.data.toList.drop 5)) = true then some (mkS (s.1.data.toList.drop 5)) else none
def artB (s : Str) : Bool := pathB s && decide (2 ≤ (parts s).length)
def rightB (l : Lnk) : Bool := pathB l.run && pathB l.job && nameB l.out.name.1 && decide ((nameL l).1.size ≤ 512) && l.ins.all fun x => (fileS x.name).isSome || artB x.name
def sizeB (n : Int) : Bool := decide (0 ≤ n) && decide (n ≤ 1099511627776)
def rangeB (l : Lnk) : Bool := decide (1 ≤ l.attempt.1) && decide (l.attempt.1 ≤ 16) && sizeB l.out.size.1 && l.ins.all fun x => sizeB x.size.1
def ascB : List OutR → Bool
  | [] => true
  | [_] => true
  | a :: b :: l => decide (cmpS a.name b.name < 0) && ascB (b :: l)
def isL (run nm : Str) (l : Lnk) : Bool := decide (l.run = run) && decide (nameL l = nm)
theorem isL_iff {run nm : Str} {l : Lnk} : isL run nm l = true ↔ l.run = run ∧ nameL l = nm := by unfold isL; simp
def idxL (ls : List Lnk) (run nm : Str) : Nat := ls.findIdx (isL run nm)
def hasL (ls : List Lnk) (run nm : Str) : Bool := ls.any (isL run nm)
def insErr (ls : List Lnk) (run : Str) : List OutR → Int
  | [] => 0
  | x :: l => if artB x.name = false then insErr ls run l else if hasL ls run x.name = false then 8 else if (ls[idxL ls run x.name]!).out.digest.1 ≠ x.digest.1 then 19 else insErr ls run l
def lnkErr (ls : List Lnk) (l : Lnk) : Int := if rightB l = false then 1 else if rangeB l = false then 2 else if ascB l.ins = false then 22 else if hasL ls l.run (nameL l) = true then 7 else if insErr ls l.run l.ins ≠ 0 then insErr ls l.run l.ins else if 4096 ≤ ls.length then 21 else 0
def lnkAdd (ls : List Lnk) (l : Lnk) : List Lnk := if lnkErr ls l ≠ 0 then ls else ls ++ [l]
def verErr : List Lnk → List Lnk → Int
  | _, [] => 0
  | all, l :: r => if lnkErr all l = 0 then verErr (all ++ [l]) r else lnkErr all l
theorem has_at2 {ls : List Lnk} {run nm : Str} (h : hasL ls run nm = true) : ∃ l, ls[idxL ls run nm]? = some l ∧ l.run = run ∧ nameL l = nm := by
  unfold hasL at h
  rw [List.any_eq_true] at h
  have hlt : idxL ls run nm < ls.length := List.findIdx_lt_length.2 h
  have := List.findIdx_getElem (w := hlt)
  exact ⟨_, List.getElem?_eq_getElem hlt, isL_iff.1 this⟩
theorem idx_first {ls : List Lnk} {run nm : Str} {k : Nat} {l : Lnk} (hl : ls[k]? = some l) (h : isL run nm l = true) (hf : ∀ j x, j < k → ls[j]? = some x → isL run nm x = false) : idxL ls run nm = k ∧ hasL ls run nm = true := by
  obtain ⟨hk, e⟩ := List.getElem?_eq_some_iff.1 hl
  constructor
  · refine (List.findIdx_eq hk).2 ⟨by rw [e]; exact h, fun j hj => ?_⟩
    exact hf j _ hj (List.getElem?_eq_getElem (by omega))
  · unfold hasL
    rw [List.any_eq_true]
    exact ⟨l, List.mem_of_getElem? hl, h⟩
theorem lnkErr_ok {ls : List Lnk} {l : Lnk} (h : lnkErr ls l = 0) : rightB l = true ∧ hasL ls l.run (nameL l) = false ∧ insErr ls l.run l.ins = 0 := by
  unfold lnkErr at h
  by_cases h1 : rightB l = false
  · rw [if_pos h1] at h; cases h
  · rw [if_neg h1] at h
    by_cases h2 : rangeB l = false
    · rw [if_pos h2] at h; cases h
    · rw [if_neg h2] at h
      by_cases h3 : ascB l.ins = false
      · rw [if_pos h3] at h; cases h
      · rw [if_neg h3] at h
        by_cases h4 : hasL ls l.run (nameL l) = true
        · rw [if_pos h4] at h; cases h
        · rw [if_neg h4] at h
          by_cases h5 : insErr ls l.run l.ins ≠ 0
          · rw [if_pos h5] at h; exact absurd h h5
          · exact ⟨by simpa using h1, by simpa using h4, Classical.not_not.1 h5⟩
theorem ins_has {ls : List Lnk} {run : Str} : ∀ {l : List OutR}, insErr ls run l = 0 → ∀ x ∈ l, artB x.name = true → hasL ls run x.name = true
  | [], _, x, hx, _ => absurd hx List.not_mem_nil
  | y :: l, h, x, hx, ha => by
    unfold insErr at h
    by_cases h1 : artB y.name = false
    · rw [if_pos h1] at h
      rcases List.mem_cons.1 hx with rfl | hx
      · rw [ha] at h1; cases h1
      · exact ins_has h x hx ha
    · rw [if_neg h1] at h
      by_cases h2 : hasL ls run y.name = false
      · rw [if_pos h2] at h; cases h
      · rw [if_neg h2] at h
        by_cases h3 : (ls[idxL ls run y.name]!).out.digest.1 ≠ y.digest.1
        · rw [if_pos h3] at h; cases h
        · rw [if_neg h3] at h
          rcases List.mem_cons.1 hx with rfl | hx
          · simpa using h2
          · exact ins_has h x hx ha
/-- Links that were added one by one. -/
def Blt (all : List Lnk) : Prop := ∀ (i : Nat) (l : Lnk), all[i]? = some l → lnkErr (all.take i) l = 0
theorem blt_nil : Blt [] := fun i l h => by simp at h
theorem blt_snoc {all : List Lnk} {l : Lnk} (h : Blt all) (hl : lnkErr all l = 0) : Blt (all ++ [l]) := fun i x hx => by
  by_cases hi : i < all.length
  · rw [List.getElem?_append_left hi] at hx
    rw [List.take_append_of_le_length (by omega)]
    exact h i x hx
  · have hi2 : i = all.length := by
      have := (List.getElem?_eq_some_iff.1 hx).1
      rw [List.length_append, List.length_singleton] at this
      omega
    subst hi2
    rw [List.getElem?_append_right (Nat.le_refl _), Nat.sub_self] at hx
    obtain rfl : l = x := by simpa using hx
    rw [List.take_left]
    exact hl
theorem blt_add {all : List Lnk} (h : Blt all) (l : Lnk) : Blt (lnkAdd all l) := by
  unfold lnkAdd
  by_cases hl : lnkErr all l = 0
  · rw [if_neg (Classical.not_not.2 hl)]
    exact blt_snoc h hl
  · rw [if_pos hl]
    exact h
theorem ver_of : ∀ (r all : List Lnk), Blt (all ++ r) → verErr all r = 0
  | [], _, _ => rfl
  | l :: r, all, h => by
    have h1 := h all.length l (by rw [List.getElem?_append_right (Nat.le_refl _), Nat.sub_self]; rfl)
    rw [List.take_left] at h1
    unfold verErr
    rw [if_pos h1]
    exact ver_of r (all ++ [l]) (by rw [List.append_assoc]; exact h)
/-- A link's name is its own in its run. -/
theorem blt_one {all : List Lnk} (h : Blt all) {i j : Nat} {a b : Lnk} (ha : all[i]? = some a) (hb : all[j]? = some b) (hr : a.run = b.run) (hn : nameL a = nameL b) : i = j := by
  have key : ∀ {i j : Nat} {a b : Lnk}, all[i]? = some a → all[j]? = some b → a.run = b.run → nameL a = nameL b → ¬ i < j := fun {i j a b} ha hb hr hn hij => by
    obtain ⟨_, h1, _⟩ := lnkErr_ok (h j b hb)
    unfold hasL at h1
    rw [List.any_eq_false] at h1
    exact h1 a (List.mem_of_getElem? (i := i) (by rw [List.getElem?_take, if_pos hij]; exact ha)) (isL_iff.2 ⟨hr, hn⟩)
  have h1 := key ha hb hr hn
  have h2 := key hb ha hr.symm hn.symm
  omega
theorem blt_idx {all : List Lnk} (h : Blt all) {i : Nat} {a : Lnk} (ha : all[i]? = some a) : idxL all a.run (nameL a) = i ∧ hasL all a.run (nameL a) = true :=
  idx_first ha (isL_iff.2 ⟨rfl, rfl⟩) fun j x hj hx => by
    cases hb : isL a.run (nameL a) x with
    | false => rfl
    | true =>
      obtain ⟨e1, e2⟩ := isL_iff.1 hb
      have := blt_one h hx ha e1 e2
      omega

/-! What is reached. -/
def Edge (ls : List Lnk) (run : Str) (i j : Nat) : Prop := ∃ l x, ls[i]? = some l ∧ x ∈ l.ins ∧ artB x.name = true ∧ hasL ls run x.name = true ∧ j = idxL ls run x.name
inductive Rch (ls : List Lnk) (run : Str) (i : Nat) : Nat → Prop
  | base : Rch ls run i i
  | step {j k : Nat} : Rch ls run i j → Edge ls run j k → Rch ls run i k
theorem Rch.trans {ls : List Lnk} {run : Str} {i j k : Nat} (h1 : Rch ls run i j) (h2 : Rch ls run j k) : Rch ls run i k := by
  induction h2 with
  | base => exact h1
  | step _ he ih => exact .step ih he
theorem Rch.head {ls : List Lnk} {run : Str} {i k : Nat} (h : Rch ls run i k) : k = i ∨ ∃ j, Edge ls run i j ∧ Rch ls run j k := by
  induction h with
  | base => exact .inl rfl
  | step _ he ih =>
    rcases ih with rfl | ⟨m, h1, h2⟩
    · exact .inr ⟨_, he, .base⟩
    · exact .inr ⟨m, h1, .step h2 he⟩
/-- Marks that hold the start, are closed, and hold nothing that is not reached: what is reached. -/
theorem closed_rch {ls : List Lnk} {run : Str} {i : Nat} {M : Nat → Prop} (h0 : M i) (h1 : ∀ j k, M j → Edge ls run j k → M k) {k : Nat} (h : Rch ls run i k) : M k := by
  induction h with
  | base => exact h0
  | step _ he ih => exact h1 _ _ ih he
theorem edge_lt {ls : List Lnk} {run : Str} {i j : Nat} (h : Edge ls run i j) : j < ls.length ∧ ∃ l, ls[j]? = some l ∧ l.run = run := by
  obtain ⟨_, x, _, _, _, hx, rfl⟩ := h
  obtain ⟨l, hl, hr, _⟩ := has_at2 hx
  exact ⟨(List.getElem?_eq_some_iff.1 hl).1, l, hl, hr⟩
theorem rch_run {ls : List Lnk} {run : Str} {i : Nat} {a : Lnk} (ha : ls[i]? = some a) (hr : a.run = run) {k : Nat} (h : Rch ls run i k) : ∃ l, ls[k]? = some l ∧ l.run = run := by
  cases h with
  | base => exact ⟨a, ha, hr⟩
  | step _ he => exact (edge_lt he).2
/-- Of links that were added one by one an artifact input is an earlier link's output. -/
theorem blt_edge {all : List Lnk} (h : Blt all) {i : Nat} {a : Lnk} (ha : all[i]? = some a) {x : OutR} (hx : x ∈ a.ins) (hb : artB x.name = true) : hasL all a.run x.name = true ∧ idxL all a.run x.name < i := by
  obtain ⟨_, _, h3⟩ := lnkErr_ok (h i a ha)
  have h4 := ins_has h3 x hx hb
  obtain ⟨l, hl, hr, hn⟩ := has_at2 h4
  have hlt := (List.getElem?_eq_some_iff.1 hl).1
  rw [List.length_take] at hlt
  rw [List.getElem?_take, if_pos (by omega)] at hl
  have h5 := blt_idx h hl
  rw [hr, hn] at h5
  exact ⟨h5.2, by omega⟩
theorem blt_down {all : List Lnk} (h : Blt all) {run : Str} {i j : Nat} {a : Lnk} (ha : all[i]? = some a) (hr : a.run = run) (he : Edge all run i j) : j < i := by
  obtain ⟨l, x, hl, hx, hb, _, rfl⟩ := he
  rw [ha] at hl
  obtain rfl : a = l := by simpa using hl
  have := (blt_edge h ha hx hb).2
  rwa [hr] at this
theorem blt_rch {all : List Lnk} (h : Blt all) {run : Str} {i k : Nat} {a : Lnk} (ha : all[i]? = some a) (hr : a.run = run) (hk : Rch all run i k) : k ≤ i := by
  induction hk with
  | base => exact Nat.le_refl _
  | step h1 he ih =>
    obtain ⟨l, hl, hlr⟩ := rch_run ha hr h1
    have := blt_down h hl hlr he
    omega
end Go.Proofs.YtjkijknjngiieaaGreatDoor

namespace Go.Proofs.YtjkijknjngiieaaGreatDoor
open Go.RowKit

open Classical in
/-- The places that a name reaches, ascending. -/
noncomputable def rchL (ls : List Lnk) (run nm : Str) : List Nat := if hasL ls run nm = true then (List.range ls.length).filter fun k => decide (Rch ls run (idxL ls run nm) k) else []
noncomputable def chainL (ls : List Lnk) (run nm : Str) : List Lnk := (rchL ls run nm).map fun k => ls[k]!
def flsL (l : Lnk) : List Str := l.ins.filterMap fun x => fileS x.name
noncomputable def srcL (ls : List Lnk) (run nm : Str) : List Str := (chainL ls run nm).flatMap flsL
theorem rch_mem {ls : List Lnk} {run nm : Str} {k : Nat} : k ∈ rchL ls run nm ↔ hasL ls run nm = true ∧ k < ls.length ∧ Rch ls run (idxL ls run nm) k := by
  unfold rchL
  by_cases h : hasL ls run nm = true
  · rw [if_pos h, List.mem_filter, List.mem_range]
    simp [h]
  · rw [if_neg h]
    exact ⟨fun h2 => absurd h2 List.not_mem_nil, fun h2 => absurd h2.1 h⟩
theorem rch_asc (ls : List Lnk) (run nm : Str) : (rchL ls run nm).Pairwise (· < ·) := by
  unfold rchL
  split
  · exact List.pairwise_lt_range.sublist List.filter_sublist
  · exact .nil
theorem src_mem {ls : List Lnk} {run nm f : Str} : f ∈ srcL ls run nm ↔ ∃ k l, k ∈ rchL ls run nm ∧ ls[k]? = some l ∧ f ∈ flsL l := by
  unfold srcL chainL
  rw [List.mem_flatMap]
  constructor
  · rintro ⟨l, hl, hf⟩
    obtain ⟨k, hk, rfl⟩ := List.mem_map.1 hl
    obtain ⟨x, hx⟩ := get_some (rch_mem.1 hk).2.1
    exact ⟨k, x, hk, hx, by rwa [get_bang hx] at hf⟩
  · rintro ⟨k, l, hk, hl, hf⟩
    exact ⟨l, List.mem_map.2 ⟨k, hk, get_bang hl⟩, hf⟩
theorem fls_mem {l : Lnk} {f : Str} : f ∈ flsL l ↔ ∃ x ∈ l.ins, fileS x.name = some f := by unfold flsL; rw [List.mem_filterMap]
section
variable {all : List Lnk} {i : Nat} {a : Lnk}
theorem own_mem (h : Blt all) (ha : all[i]? = some a) {k : Nat} : k ∈ rchL all a.run (nameL a) ↔ Rch all a.run i k := by
  obtain ⟨e, hh⟩ := blt_idx h ha
  rw [rch_mem, e]
  refine ⟨fun h2 => h2.2.2, fun h2 => ⟨hh, ?_, h2⟩⟩
  obtain ⟨l, hl, _⟩ := rch_run ha rfl h2
  exact (List.getElem?_eq_some_iff.1 hl).1
/-- Its own files are among an output's sources. -/
theorem own_file (h : Blt all) (ha : all[i]? = some a) {x : OutR} (hx : x ∈ a.ins) {p : Str} (hp : fileS x.name = some p) : p ∈ srcL all a.run (nameL a) :=
  src_mem.2 ⟨i, a, (own_mem h ha).2 .base, ha, fls_mem.2 ⟨x, hx, hp⟩⟩
theorem edge_of (h : Blt all) (ha : all[i]? = some a) {x : OutR} (hx : x ∈ a.ins) (hb : artB x.name = true) : Edge all a.run i (idxL all a.run x.name) := ⟨a, x, ha, hx, hb, (blt_edge h ha hx hb).1, rfl⟩
/-- The sources of its artifact inputs are. -/
theorem own_more (h : Blt all) (ha : all[i]? = some a) {x : OutR} (hx : x ∈ a.ins) (hb : artB x.name = true) {f : Str} (hf : f ∈ srcL all a.run x.name) : f ∈ srcL all a.run (nameL a) := by
  obtain ⟨k, l, hk, hl, hfl⟩ := src_mem.1 hf
  have h2 := (rch_mem.1 hk).2.2
  exact src_mem.2 ⟨k, l, (own_mem h ha).2 ((Rch.step .base (edge_of h ha hx hb)).trans h2), hl, hfl⟩
/-- And no others are. -/
theorem own_from (h : Blt all) (ha : all[i]? = some a) {f : Str} (hf : f ∈ srcL all a.run (nameL a)) : (∃ x ∈ a.ins, fileS x.name = some f) ∨ ∃ x ∈ a.ins, artB x.name = true ∧ f ∈ srcL all a.run x.name := by
  obtain ⟨k, l, hk, hl, hfl⟩ := src_mem.1 hf
  rcases ((own_mem h ha).1 hk).head with rfl | ⟨j, he, hr⟩
  · rw [ha] at hl
    obtain rfl : a = l := by simpa using hl
    exact .inl (fls_mem.1 hfl)
  · obtain ⟨b, x, hb, hx, hart, hh, rfl⟩ := he
    rw [ha] at hb
    obtain rfl : a = b := by simpa using hb
    exact .inr ⟨x, hx, hart, src_mem.2 ⟨k, l, rch_mem.2 ⟨hh, (List.getElem?_eq_some_iff.1 hl).1, hr⟩, hl, hfl⟩⟩
/-- The chain ends with the link. -/
theorem chain_last (h : Blt all) (ha : all[i]? = some a) : (chainL all a.run (nameL a)).getLast? = some a := by
  have hi := (own_mem h ha).2 (.base)
  obtain ⟨A, B, e⟩ := List.append_of_mem hi
  have hasc := rch_asc all a.run (nameL a)
  have hB : B = [] := by
    cases B with
    | nil => rfl
    | cons k B =>
      rw [e, List.pairwise_append, List.pairwise_cons] at hasc
      have h1 := hasc.2.1.1 k (by simp)
      have h2 : k ∈ rchL all a.run (nameL a) := by rw [e]; simp
      have h3 := blt_rch h ha rfl ((own_mem h ha).1 h2)
      omega
  unfold chainL
  rw [e, hB, List.map_append, List.map_cons, List.map_nil, List.getLast?_append, get_bang ha]
  rfl
theorem chain_at (h : Blt all) (ha : all[i]? = some a) {p : Nat} {b : Lnk} (hp : (chainL all a.run (nameL a))[p]? = some b) : ∃ k, (rchL all a.run (nameL a))[p]? = some k ∧ all[k]? = some b ∧ b.run = a.run ∧ Rch all a.run i k := by
  unfold chainL at hp
  rw [List.getElem?_map, Option.map_eq_some_iff] at hp
  obtain ⟨k, hk, e⟩ := hp
  have hm := (own_mem h ha).1 (List.mem_of_getElem? hk)
  obtain ⟨l, hl, hr⟩ := rch_run ha rfl hm
  rw [get_bang hl] at e
  subst e
  exact ⟨k, hk, hl, hr, hm⟩
/-- A link of all that is reached stands in the chain where its place does. -/
theorem chain_idx (h : Blt all) (ha : all[i]? = some a) {p k : Nat} {b : Lnk} (hk : (rchL all a.run (nameL a))[p]? = some k) (hb : all[k]? = some b) (hr : b.run = a.run) : idxL (chainL all a.run (nameL a)) a.run (nameL b) = p ∧ hasL (chainL all a.run (nameL a)) a.run (nameL b) = true := by
  have hc : (chainL all a.run (nameL a))[p]? = some b := by
    unfold chainL
    rw [List.getElem?_map, hk]
    show some all[k]! = some b
    rw [get_bang hb]
  refine idx_first hc (isL_iff.2 ⟨hr, rfl⟩) fun q x hq hx => ?_
  cases hb2 : isL a.run (nameL b) x with
  | false => rfl
  | true =>
    obtain ⟨e1, e2⟩ := isL_iff.1 hb2
    obtain ⟨m, hm, hmx, _, _⟩ := chain_at h ha hx
    have e3 := blt_one h hmx hb (e1.trans hr.symm) e2
    subst e3
    have hasc := rch_asc all a.run (nameL a)
    rw [List.pairwise_iff_getElem] at hasc
    obtain ⟨hq2, eq1⟩ := List.getElem?_eq_some_iff.1 hm
    obtain ⟨hp2, eq2⟩ := List.getElem?_eq_some_iff.1 hk
    have := hasc q p hq2 hp2 hq
    omega
/-- The chain holds each link once, behind those of its artifact inputs. -/
theorem chain_each (h : Blt all) (ha : all[i]? = some a) {p : Nat} {b : Lnk} (hp : (chainL all a.run (nameL a))[p]? = some b) : idxL (chainL all a.run (nameL a)) a.run (nameL b) = p ∧ hasL (chainL all a.run (nameL a)) a.run (nameL b) = true ∧ b.run = a.run ∧ ∀ x ∈ b.ins, artB x.name = true → hasL (chainL all a.run (nameL a)) a.run x.name = true ∧ idxL (chainL all a.run (nameL a)) a.run x.name < p := by
  obtain ⟨k, hk, hb, hr, hrc⟩ := chain_at h ha hp
  obtain ⟨e1, e2⟩ := chain_idx h ha hk hb hr
  refine ⟨e1, e2, hr, fun x hx hart => ?_⟩
  obtain ⟨h1, h2⟩ := blt_edge h hb hx hart
  have he := edge_of h hb hx hart
  rw [hr] at h1 h2 he
  obtain ⟨c, hc, hcr, hcn⟩ := has_at2 h1
  have hj := (own_mem h ha).2 (Rch.step hrc he)
  obtain ⟨q, hq⟩ := List.getElem?_of_mem hj
  obtain ⟨e3, e4⟩ := chain_idx h ha hq hc hcr
  rw [hcn] at e3 e4
  refine ⟨e4, ?_⟩
  rw [e3]
  have hasc := rch_asc all a.run (nameL a)
  rw [List.pairwise_iff_getElem] at hasc
  obtain ⟨hq2, eq1⟩ := List.getElem?_eq_some_iff.1 hq
  obtain ⟨hp2, eq2⟩ := List.getElem?_eq_some_iff.1 hk
  rcases Nat.lt_trichotomy q p with h6 | h6 | h6
  · exact h6
  · subst h6
    omega
  · have := hasc p q hp2 hq2 h6
    omega
end
end Go.Proofs.YtjkijknjngiieaaGreatDoor

namespace Go.Proofs.YtjkijknjngiieaaGreatDoor
open Go.RowKit

theorem colon_no {b : ByteArray} {r : List UInt8} (hb : b = ⟨(102 :: 105 :: 108 :: 101 :: 58 :: r).toArray⟩) : nameB b = false := by
  rw [Bool.eq_false_iff]
  intro h
  unfold nameB at h
  rw [Bool.and_eq_true, List.all_eq_true] at h
  have h4 : 4 < b.size := by
    rw [hb]
    show 4 < (102 :: 105 :: 108 :: 101 :: 58 :: r).length
    simp
  have h5 := h.2 4 (List.mem_range.2 h4)
  subst hb
  rw [getElem!_pos (⟨(102 :: 105 :: 108 :: 101 :: 58 :: r).toArray⟩ : ByteArray) 4 h4] at h5
  have h6 : nmB 4 58 = true := h5
  exact absurd h6 (by decide)
theorem art_nofile {s : Str} (h : artB s = true) : fileS s = none := by
  unfold fileS
  rw [if_neg]
  rintro ⟨h5, _⟩
  unfold artB at h
  rw [Bool.and_eq_true] at h
  have hn : namesB (parts s) = true := by
    have hp := h.1
    unfold pathB at hp
    have hp2 : pathE s = 0 := by simpa using hp
    unfold pathE at hp2
    split at hp2
    · cases hp2
    · split at hp2
      · assumption
      · cases hp2
  obtain ⟨r, hr⟩ : ∃ r, s.1.data.toList = 102 :: 105 :: 108 :: 101 :: 58 :: r := ⟨s.1.data.toList.drop 5, by
    conv => lhs; rw [← List.take_append_drop 5 s.1.data.toList, h5]
    rfl⟩
  obtain ⟨p, ps, hps⟩ : ∃ p ps, splL r = p :: ps := by
    cases hq : splL r with
    | nil => exact absurd hq (splL_ne r)
    | cons p ps => exact ⟨p, ps, rfl⟩
  have hs : splL s.1.data.toList = (102 :: 105 :: 108 :: 101 :: 58 :: p) :: ps := by
    rw [hr]
    simp [splL, hps]
  have hm : mkS (102 :: 105 :: 108 :: 101 :: 58 :: p) ∈ parts s := by
    unfold parts
    rw [hs]
    simp
  have hnm : nameB (mkS (102 :: 105 :: 108 :: 101 :: 58 :: p)).1 = true := by
    unfold namesB at hn
    exact List.all_eq_true.1 hn _ hm
  have hlen : (102 :: 105 :: 108 :: 101 :: 58 :: p).length ≤ 9223372036854775807 := by
    have h1 := splL_len_le s.1.data.toList (102 :: 105 :: 108 :: 101 :: 58 :: p) (by rw [hs]; simp)
    have h2 := s.2
    have h3 : s.1.data.toList.length = s.1.size := by rw [Array.length_toList]; rfl
    omega
  rw [colon_no (mkS_bytes hlen)] at hnm
  cases hnm
/-- Marks: a list that tells what is reached. -/
def Marks (ls : List Lnk) (run nm : Str) (m : List Bool) : Prop := m.length = ls.length ∧ ∀ k, m[k]? = some true ↔ k ∈ rchL ls run nm
theorem marks_one {ls : List Lnk} {run nm : Str} {m n : List Bool} (h1 : Marks ls run nm m) (h2 : Marks ls run nm n) : m = n := by
  refine List.ext_getElem? fun k => ?_
  have hk : m[k]? = some true ↔ n[k]? = some true := (h1.2 k).trans (h2.2 k).symm
  by_cases hl : k < ls.length
  · obtain ⟨x, hx⟩ := get_some (show k < m.length by rw [h1.1]; exact hl)
    obtain ⟨y, hy⟩ := get_some (show k < n.length by rw [h2.1]; exact hl)
    rw [hx, hy] at hk ⊢
    cases x <;> cases y <;> simp_all
  · rw [List.getElem?_eq_none (by rw [h1.1]; omega), List.getElem?_eq_none (by rw [h2.1]; omega)]
/-- Marks that hold the start, are closed, and hold nothing else than what is reached. -/
theorem marks_of {ls : List Lnk} {run nm : Str} {m : List Bool} (hl : m.length = ls.length) (hh : hasL ls run nm = true) (h0 : m[idxL ls run nm]? = some true) (h1 : ∀ j k, m[j]? = some true → Edge ls run j k → m[k]? = some true) (h2 : ∀ k, m[k]? = some true → Rch ls run (idxL ls run nm) k) : Marks ls run nm m :=
  ⟨hl, fun k => by
    rw [rch_mem]
    exact ⟨fun h => ⟨hh, by have := (List.getElem?_eq_some_iff.1 h).1; omega, h2 k h⟩, fun h => closed_rch (M := fun k => m[k]? = some true) h0 h1 h.2.2⟩⟩
theorem marks_none {ls : List Lnk} {run nm : Str} (hh : hasL ls run nm = false) : Marks ls run nm (List.replicate ls.length false) :=
  ⟨List.length_replicate, fun k => by
    rw [rch_mem, hh]
    constructor
    · intro h
      rw [List.getElem?_replicate] at h
      split at h <;> simp at h
    · intro h
      cases h.1⟩
/-- The links that marks take. -/
theorem marks_chain {ls : List Lnk} {run nm : Str} {m : List Bool} (h : Marks ls run nm m) : (List.range ls.length).filter (fun k => m[k]?.getD false) = rchL ls run nm := by
  have h1 : ((List.range ls.length).filter (fun k => m[k]?.getD false)).Pairwise (· < ·) := List.pairwise_lt_range.sublist List.filter_sublist
  have h2 := rch_asc ls run nm
  have hm : ∀ k, k ∈ (List.range ls.length).filter (fun k => m[k]?.getD false) ↔ k ∈ rchL ls run nm := fun k => by
    rw [← h.2 k, List.mem_filter, List.mem_range]
    constructor
    · rintro ⟨h3, h4⟩
      obtain ⟨x, hx⟩ := get_some (show k < m.length by rw [h.1]; exact h3)
      rw [hx] at h4 ⊢
      simp at h4
      rw [h4]
    · intro h3
      have := (List.getElem?_eq_some_iff.1 h3).1
      have h9 := h.1
      exact ⟨by omega, by rw [h3]; rfl⟩
  generalize (List.range ls.length).filter (fun k => m[k]?.getD false) = A at *
  generalize rchL ls run nm = B at *
  clear h
  induction A generalizing B with
  | nil =>
    cases B with
    | nil => rfl
    | cons b B => exact absurd ((hm b).2 (by simp)) List.not_mem_nil
  | cons a A ih =>
    cases B with
    | nil => exact absurd ((hm a).1 (by simp)) List.not_mem_nil
    | cons b B =>
      rw [List.pairwise_cons] at h1 h2
      have e : a = b := by
        rcases List.mem_cons.1 ((hm a).1 (by simp)) with e | ha
        · exact e
        · rcases List.mem_cons.1 ((hm b).2 (by simp)) with e | hb
          · exact e.symm
          · have x1 := h1.1 b hb
            have x2 := h2.1 a ha
            omega
      subst e
      rw [ih h1.2 B h2.2 fun k => ⟨fun hk => ?_, fun hk => ?_⟩]
      · rcases List.mem_cons.1 ((hm k).1 (List.mem_cons_of_mem _ hk)) with e | h3
        · have := h1.1 k hk; omega
        · exact h3
      · rcases List.mem_cons.1 ((hm k).2 (List.mem_cons_of_mem _ hk)) with e | h3
        · have := h2.1 k hk; omega
        · exact h3
end Go.Proofs.YtjkijknjngiieaaGreatDoor

namespace Go.Proofs.YtjkijknjngiieaaGreatDoor
open Go.RowKit

section
variable {ls : List Lnk} {run nm s : Str} {m : List Bool} {st : List Nat} {P : Nat → Prop}

/-- Marks behind a visit, and the stack. -/
def visM (ls : List Lnk) (run s : Str) (m : List Bool) : List Bool := if hasL ls run s = true then m.set (idxL ls run s) true else m
def visS (ls : List Lnk) (run s : Str) (m : List Bool) (st : List Nat) : List Nat := if hasL ls run s = true ∧ m[idxL ls run s]? = some false then st ++ [idxL ls run s] else st
def InM (ls : List Lnk) (run : Str) (m : List Bool) (x : OutR) : Prop := artB x.name = true → hasL ls run x.name = true → m[idxL ls run x.name]? = some true
def Clo (ls : List Lnk) (run : Str) (m : List Bool) (j : Nat) : Prop := ∀ l, ls[j]? = some l → ∀ x ∈ l.ins, InM ls run m x
def muM (m : List Bool) : Nat := m.countP (· == false)
structure Dfs (ls : List Lnk) (run nm : Str) (m : List Bool) (st : List Nat) (P : Nat → Prop) : Prop where
  len : m.length = ls.length
  sound : ∀ j, m[j]? = some true → hasL ls run nm = true ∧ Rch ls run (idxL ls run nm) j
  stk : ∀ j ∈ st, m[j]? = some true
  cl : ∀ j, m[j]? = some true → j ∈ st ∨ P j ∨ Clo ls run m j
theorem idx_lt (h : hasL ls run s = true) : idxL ls run s < ls.length := by
  obtain ⟨l, hl, _⟩ := has_at2 h
  exact (List.getElem?_eq_some_iff.1 hl).1
theorem set_true {j i : Nat} (h : m[j]? = some true) : (m.set i true)[j]? = some true := by
  rw [List.getElem?_set]
  split
  · rename_i e
    subst e
    rw [if_pos (List.getElem?_eq_some_iff.1 h).1]
  · exact h
theorem visM_true {j : Nat} (h : m[j]? = some true) : (visM ls run s m)[j]? = some true := by
  unfold visM
  split
  · exact set_true h
  · exact h
theorem visM_len : (visM ls run s m).length = m.length := by unfold visM; split <;> simp
theorem visM_at (hl : m.length = ls.length) (h : hasL ls run s = true) : (visM ls run s m)[idxL ls run s]? = some true := by
  unfold visM
  rw [if_pos h, List.getElem?_set_self (by rw [hl]; exact idx_lt h)]
theorem visM_of {j : Nat} (h : (visM ls run s m)[j]? = some true) : m[j]? = some true ∨ (hasL ls run s = true ∧ j = idxL ls run s) := by
  unfold visM at h
  split at h
  · rename_i hh
    rw [List.getElem?_set] at h
    split at h
    · rename_i e
      exact .inr ⟨hh, e.symm⟩
    · exact .inl h
  · exact .inl h
theorem InM.vis {x : OutR} (h : InM ls run m x) : InM ls run (visM ls run s m) x := fun h1 h2 => visM_true (h h1 h2)
theorem Clo.vis {j : Nat} (h : Clo ls run m j) : Clo ls run (visM ls run s m) j := fun l hl x hx => (h l hl x hx).vis
theorem muM_set {i : Nat} (h : m[i]? = some false) : muM (m.set i true) + 1 = muM m := by
  unfold muM
  induction m generalizing i with
  | nil => simp at h
  | cons b m ih =>
    cases i with
    | zero =>
      obtain rfl : b = false := by simpa using h
      simp
    | succ i =>
      have := ih (i := i) (by simpa using h)
      rw [List.set_cons_succ, List.countP_cons, List.countP_cons]
      omega
theorem muM_set_le {i : Nat} : muM (m.set i true) ≤ muM m := by
  by_cases h : m[i]? = some false
  · have := muM_set h; omega
  · have : m.set i true = m := by
      apply List.ext_getElem?
      intro j
      rw [List.getElem?_set]
      split
      · rename_i e
        subst e
        cases hb : m[i]? with
        | none =>
          have := List.getElem?_eq_none_iff.1 hb
          rw [if_neg (by omega)]
        | some b =>
          have := (List.getElem?_eq_some_iff.1 hb).1
          rw [if_pos this]
          cases b with
          | true => rfl
          | false => exact absurd hb h
      · rfl
    rw [this]
    exact Nat.le_refl _
/-- What is still to be done does not grow. -/
theorem vis_mu : 2 * muM (visM ls run s m) + (visS ls run s m st).length ≤ 2 * muM m + st.length := by
  unfold visM visS
  by_cases h : hasL ls run s = true
  · rw [if_pos h]
    by_cases h2 : m[idxL ls run s]? = some false
    · rw [if_pos ⟨h, h2⟩]
      have := muM_set h2
      rw [List.length_append, List.length_singleton]
      omega
    · rw [if_neg (fun e => h2 e.2)]
      have := muM_set_le (m := m) (i := idxL ls run s)
      omega
  · rw [if_neg h, if_neg (fun e => h e.1)]
    exact Nat.le_refl _
theorem Dfs.visit (h : Dfs ls run nm m st P) (hs : hasL ls run s = true → hasL ls run nm = true ∧ Rch ls run (idxL ls run nm) (idxL ls run s)) : Dfs ls run nm (visM ls run s m) (visS ls run s m st) P where
  len := by rw [visM_len, h.len]
  sound := fun j hj => by
    rcases visM_of hj with h1 | ⟨h1, rfl⟩
    · exact h.sound j h1
    · exact hs h1
  stk := fun j hj => by
    unfold visS at hj
    split at hj
    · rename_i h2
      rcases List.mem_append.1 hj with h3 | h3
      · exact visM_true (h.stk j h3)
      · obtain rfl := List.mem_singleton.1 h3
        exact visM_at h.len h2.1
    · exact visM_true (h.stk j hj)
  cl := fun j hj => by
    have hsub : ∀ i ∈ st, i ∈ visS ls run s m st := fun i hi => by
      unfold visS
      split
      · exact List.mem_append_left _ hi
      · exact hi
    by_cases h1 : m[j]? = some true
    · rcases h.cl j h1 with h2 | h2 | h2
      · exact .inl (hsub j h2)
      · exact .inr (.inl h2)
      · exact .inr (.inr h2.vis)
    · rcases visM_of hj with h2 | ⟨h2, rfl⟩
      · exact absurd h2 h1
      · left
        have h3 : m[idxL ls run s]? = some false := by
          obtain ⟨b, hb⟩ := get_some (show idxL ls run s < m.length by rw [h.len]; exact idx_lt h2)
          rw [hb] at h1 ⊢
          cases b with
          | false => rfl
          | true => exact absurd rfl h1
        unfold visS
        rw [if_pos ⟨h2, h3⟩]
        simp
theorem Dfs.start : Dfs ls run nm (List.replicate ls.length false) [] (fun _ => False) where
  len := List.length_replicate
  sound := fun j hj => by rw [List.getElem?_replicate] at hj; split at hj <;> simp at hj
  stk := fun _ h => absurd h List.not_mem_nil
  cl := fun j hj => by rw [List.getElem?_replicate] at hj; split at hj <;> simp at hj
theorem Dfs.pop {k : Nat} (h : Dfs ls run nm m (st ++ [k]) (fun _ => False)) : Dfs ls run nm m st (· = k) where
  len := h.len
  sound := h.sound
  stk := fun j hj => h.stk j (List.mem_append_left _ hj)
  cl := fun j hj => by
    rcases h.cl j hj with h1 | h1 | h1
    · rcases List.mem_append.1 h1 with h2 | h2
      · exact .inl h2
      · exact .inr (.inl (List.mem_singleton.1 h2))
    · exact h1.elim
    · exact .inr (.inr h1)
theorem Dfs.done {k : Nat} (h : Dfs ls run nm m st (· = k)) (hc : Clo ls run m k) : Dfs ls run nm m st (fun _ => False) where
  len := h.len
  sound := h.sound
  stk := h.stk
  cl := fun j hj => by
    rcases h.cl j hj with h1 | h1 | h1
    · exact .inl h1
    · subst h1; exact .inr (.inr hc)
    · exact .inr (.inr h1)
theorem clo_edge (h : ∀ j, m[j]? = some true → Clo ls run m j) {j k : Nat} (hj : m[j]? = some true) (he : Edge ls run j k) : m[k]? = some true := by
  obtain ⟨l, x, hl, hx, ha, hh, rfl⟩ := he
  exact h j hj l hl x hx ha hh
theorem Dfs.marks (h : Dfs ls run nm m [] (fun _ => False)) (h0 : hasL ls run nm = true → m[idxL ls run nm]? = some true) : Marks ls run nm m := by
  have hc : ∀ j, m[j]? = some true → Clo ls run m j := fun j hj => by
    rcases h.cl j hj with h1 | h1 | h1
    · exact absurd h1 List.not_mem_nil
    · exact h1.elim
    · exact h1
  rcases hh : hasL ls run nm with _ | _
  · have : m = List.replicate ls.length false := by
      refine List.eq_replicate_iff.2 ⟨h.len, fun b hb => ?_⟩
      obtain ⟨j, hj⟩ := List.getElem?_of_mem hb
      cases b with
      | false => rfl
      | true =>
        have := (h.sound j hj).1
        rw [hh] at this
        cases this
    rw [this]
    exact marks_none hh
  · exact marks_of h.len hh (h0 hh) (fun j k hj he => clo_edge hc hj he) (fun k hk => (h.sound k hk).2)
/-- An artifact input of what is reached is reached. -/
theorem Dfs.input (h : Dfs ls run nm m st P) {k : Nat} {l : Lnk} {x : OutR} (hk : m[k]? = some true) (hl : ls[k]? = some l) (hx : x ∈ l.ins) (ha : artB x.name = true) : hasL ls run x.name = true → hasL ls run nm = true ∧ Rch ls run (idxL ls run nm) (idxL ls run x.name) := fun hh =>
  ⟨(h.sound k hk).1, .step (h.sound k hk).2 ⟨l, x, hl, hx, ha, hh, rfl⟩⟩

/-! By rounds. -/
structure Snd (ls : List Lnk) (run nm : Str) (m : List Bool) : Prop where
  len : m.length = ls.length
  has : hasL ls run nm = true
  first : m[idxL ls run nm]? = some true
  sound : ∀ j, m[j]? = some true → Rch ls run (idxL ls run nm) j
theorem Snd.start (h : hasL ls run nm = true) : Snd ls run nm ((List.replicate ls.length false).set (idxL ls run nm) true) where
  len := by simp
  has := h
  first := by rw [List.getElem?_set_self (by simpa using idx_lt h)]
  sound := fun j hj => by
    rw [List.getElem?_set] at hj
    split at hj
    · rename_i e
      subst e
      exact .base
    · rw [List.getElem?_replicate] at hj
      split at hj <;> simp at hj
theorem Snd.mark (h : Snd ls run nm m) {k : Nat} {l : Lnk} {x : OutR} (hk : m[k]? = some true) (hl : ls[k]? = some l) (hx : x ∈ l.ins) (ha : artB x.name = true) (hh : hasL ls run x.name = true) : Snd ls run nm (m.set (idxL ls run x.name) true) where
  len := by rw [List.length_set]; exact h.len
  has := h.has
  first := set_true h.first
  sound := fun j hj => by
    rw [List.getElem?_set] at hj
    split at hj
    · rename_i e
      subst e
      exact .step (h.sound k hk) ⟨l, x, hl, hx, ha, hh, rfl⟩
    · exact h.sound j hj
theorem Snd.marks (h : Snd ls run nm m) (hc : ∀ j, j < ls.length → m[j]? = some true → Clo ls run m j) : Marks ls run nm m :=
  marks_of h.len h.has h.first (fun j k hj he => clo_edge (fun j hj => hc j (by rw [← h.len]; exact (List.getElem?_eq_some_iff.1 hj).1) hj) hj he) h.sound
end
end Go.Proofs.YtjkijknjngiieaaGreatDoor

namespace Go.Proofs.YtjkijknjngiieaaGreatDoor
open Go.RowKit

theorem bytes_app (a b : ByteArray) : (a ++ b).data.toList = a.data.toList ++ b.data.toList := by simp
theorem join_bytes {a b : Str} (h : a.1.size + b.1.size + 1 ≤ 9223372036854775807) : (joinS a b).1 = a.1 ++ ⟨#[47]⟩ ++ b.1 := by
  have h1 : a.1.data.toList.length = a.1.size := by rw [Array.length_toList]; rfl
  have h2 : b.1.data.toList.length = b.1.size := by rw [Array.length_toList]; rfl
  unfold joinS
  rw [mkS_bytes (by rw [List.length_append, List.length_cons]; omega)]
  apply ByteArray.ext
  apply Array.ext'
  rw [bytes_app, bytes_app]
  simp
theorem join_size {a b : Str} (h : a.1.size + b.1.size + 1 ≤ 9223372036854775807) : (joinS a b).1.size = a.1.size + b.1.size + 1 := by
  rw [join_bytes h, ByteArray.size_append, ByteArray.size_append]
  show a.1.size + 1 + b.1.size = _
  omega
theorem drop_at {α : Type} {l : List α} {k : Nat} {x : α} (h : l[k]? = some x) : l.drop k = x :: l.drop (k + 1) := by
  obtain ⟨hk, e⟩ := List.getElem?_eq_some_iff.1 h
  rw [List.drop_eq_getElem_cons hk, e]
theorem take_at {α : Type} {l : List α} {k : Nat} {x : α} (h : l[k]? = some x) : l.take (k + 1) = l.take k ++ [x] := by
  rw [List.take_add_one, h]; rfl
theorem all_at {α : Type} {l : List α} {k : Nat} {x : α} {p : α → Bool} (h : l[k]? = some x) (h1 : (l.take k).all p = true) (h2 : p x = true) : (l.take (k + 1)).all p = true := by
  rw [take_at h, List.all_append, h1]; simp [h2]
theorem all_no {α : Type} {l : List α} {k : Nat} {x : α} {p : α → Bool} (h : l[k]? = some x) (h2 : p x = false) : l.all p = false := by
  rw [List.all_eq_false]
  exact ⟨x, List.mem_of_getElem? h, by rw [h2]; decide⟩
def inB (x : OutR) : Bool := (fileS x.name).isSome || artB x.name
def headB (l : Lnk) : Bool := pathB l.run && pathB l.job && nameB l.out.name.1 && decide ((nameL l).1.size ≤ 512)
theorem right_of (l : Lnk) : rightB l = (headB l && l.ins.all inB) := rfl
def headR (l : Lnk) : Bool := decide (1 ≤ l.attempt.1) && decide (l.attempt.1 ≤ 16) && sizeB l.out.size.1
theorem range_of (l : Lnk) : rangeB l = (headR l && l.ins.all fun x => sizeB x.size.1) := rfl
theorem asc_iff : ∀ {l : List OutR}, ascB l = true ↔ ∀ i a b, l[i]? = some a → l[i + 1]? = some b → cmpS a.name b.name < 0
  | [] => by simp [ascB]
  | [_] => by
    simp only [ascB, true_iff]
    intro i a b h1 h2
    simp at h2
  | a :: b :: l => by
    have ih := @asc_iff (b :: l)
    unfold ascB
    rw [Bool.and_eq_true, ih, decide_eq_true_iff]
    constructor
    · rintro ⟨h1, h2⟩ i x y hx hy
      cases i with
      | zero =>
        obtain rfl : a = x := by simpa using hx
        obtain rfl : b = y := by simpa using hy
        exact h1
      | succ i => exact h2 i x y (by simpa using hx) (by simpa using hy)
    · intro h
      exact ⟨h 0 a b rfl rfl, fun i x y hx hy => h (i + 1) x y (by simpa using hx) (by simpa using hy)⟩
def ascTo (l : List OutR) (k : Nat) : Prop := ∀ i a b, i + 1 < k → l[i]? = some a → l[i + 1]? = some b → cmpS a.name b.name < 0
theorem asc_one (l : List OutR) : ascTo l 1 := fun i a b h => by omega
theorem asc_next {l : List OutR} {k : Nat} {a b : OutR} (h : ascTo l (k + 1)) (ha : l[k]? = some a) (hb : l[k + 1]? = some b) (hc : cmpS a.name b.name < 0) : ascTo l (k + 2) := fun i x y hi hx hy => by
  by_cases e : i = k
  · subst e
    rw [ha] at hx
    rw [hb] at hy
    obtain rfl : a = x := by simpa using hx
    obtain rfl : b = y := by simpa using hy
    exact hc
  · exact h i x y (by omega) hx hy
theorem asc_all {l : List OutR} {k : Nat} (h : ascTo l k) (hk : l.length ≤ k) : ascB l = true := asc_iff.2 fun i a b hx hy => h i a b (by have := (List.getElem?_eq_some_iff.1 hy).1; omega) hx hy
theorem asc_fail {l : List OutR} {k : Nat} {a b : OutR} (ha : l[k]? = some a) (hb : l[k + 1]? = some b) (hc : ¬ cmpS a.name b.name < 0) : ascB l = false := by
  rw [Bool.eq_false_iff]
  intro h
  exact hc (asc_iff.1 h k a b ha hb)
theorem ins_skip {ls : List Lnk} {run : Str} {l : List OutR} {k : Nat} {x : OutR} (h : l[k]? = some x) (h1 : artB x.name = false) : insErr ls run (l.drop k) = insErr ls run (l.drop (k + 1)) := by
  rw [drop_at h, insErr, if_pos h1]
theorem ins_8 {ls : List Lnk} {run : Str} {l : List OutR} {k : Nat} {x : OutR} (h : l[k]? = some x) (h1 : artB x.name = true) (h2 : hasL ls run x.name = false) : insErr ls run (l.drop k) = 8 := by
  rw [drop_at h, insErr, if_neg (by rw [h1]; decide), if_pos h2]
theorem ins_19 {ls : List Lnk} {run : Str} {l : List OutR} {k : Nat} {x : OutR} {y : Lnk} (h : l[k]? = some x) (h1 : artB x.name = true) (h2 : hasL ls run x.name = true) (hy : ls[idxL ls run x.name]? = some y) (h3 : y.out.digest.1 ≠ x.digest.1) : insErr ls run (l.drop k) = 19 := by
  rw [drop_at h, insErr, if_neg (by rw [h1]; decide), if_neg (by rw [h2]; decide), get_bang hy, if_pos h3]
theorem ins_go {ls : List Lnk} {run : Str} {l : List OutR} {k : Nat} {x : OutR} {y : Lnk} (h : l[k]? = some x) (h1 : artB x.name = true) (h2 : hasL ls run x.name = true) (hy : ls[idxL ls run x.name]? = some y) (h3 : y.out.digest.1 = x.digest.1) : insErr ls run (l.drop k) = insErr ls run (l.drop (k + 1)) := by
  rw [drop_at h, insErr, if_neg (by rw [h1]; decide), if_neg (by rw [h2]; decide), get_bang hy, if_neg (Classical.not_not.2 h3)]
theorem ins_end {ls : List Lnk} {run : Str} {l : List OutR} {k : Nat} (h : l.length ≤ k) : insErr ls run (l.drop k) = 0 := by
  rw [List.drop_eq_nil_of_le h, insErr]
section
variable {ls : List Lnk} {l : Lnk}
theorem lerr_1 (h : rightB l = false) : lnkErr ls l = 1 := by unfold lnkErr; rw [if_pos h]
theorem lerr_2 (h1 : rightB l = true) (h : rangeB l = false) : lnkErr ls l = 2 := by unfold lnkErr; rw [if_neg (by rw [h1]; decide), if_pos h]
theorem lerr_22 (h1 : rightB l = true) (h2 : rangeB l = true) (h : ascB l.ins = false) : lnkErr ls l = 22 := by unfold lnkErr; rw [if_neg (by rw [h1]; decide), if_neg (by rw [h2]; decide), if_pos h]
theorem lerr_7 (h1 : rightB l = true) (h2 : rangeB l = true) (h3 : ascB l.ins = true) (h : hasL ls l.run (nameL l) = true) : lnkErr ls l = 7 := by unfold lnkErr; rw [if_neg (by rw [h1]; decide), if_neg (by rw [h2]; decide), if_neg (by rw [h3]; decide), if_pos h]
theorem lerr_ins (h1 : rightB l = true) (h2 : rangeB l = true) (h3 : ascB l.ins = true) (h4 : hasL ls l.run (nameL l) = false) (h : insErr ls l.run l.ins ≠ 0) : lnkErr ls l = insErr ls l.run l.ins := by unfold lnkErr; rw [if_neg (by rw [h1]; decide), if_neg (by rw [h2]; decide), if_neg (by rw [h3]; decide), if_neg (by rw [h4]; decide), if_pos h]
theorem lerr_21 (h1 : rightB l = true) (h2 : rangeB l = true) (h3 : ascB l.ins = true) (h4 : hasL ls l.run (nameL l) = false) (h5 : insErr ls l.run l.ins = 0) (h : 4096 ≤ ls.length) : lnkErr ls l = 21 := by unfold lnkErr; rw [if_neg (by rw [h1]; decide), if_neg (by rw [h2]; decide), if_neg (by rw [h3]; decide), if_neg (by rw [h4]; decide), if_neg (Classical.not_not.2 h5), if_pos h]
theorem lerr_0 (h1 : rightB l = true) (h2 : rangeB l = true) (h3 : ascB l.ins = true) (h4 : hasL ls l.run (nameL l) = false) (h5 : insErr ls l.run l.ins = 0) (h : ¬ 4096 ≤ ls.length) : lnkErr ls l = 0 := by unfold lnkErr; rw [if_neg (by rw [h1]; decide), if_neg (by rw [h2]; decide), if_neg (by rw [h3]; decide), if_neg (by rw [h4]; decide), if_neg (Classical.not_not.2 h5), if_neg h]
theorem ver_at {all r : List Lnk} {l : Lnk} (h : lnkErr all l = 0) : verErr all (l :: r) = verErr (all ++ [l]) r := by rw [verErr, if_pos h]
theorem ver_no {all r : List Lnk} {l : Lnk} (h : lnkErr all l ≠ 0) : verErr all (l :: r) = lnkErr all l := by rw [verErr, if_neg h]
end
/-- A file's path by the library's words. -/
theorem file_of (s : Str) : fileS s = if Lib.hasPrefix s.1.data.toList [102, 105, 108, 101, 58] = true ∧ pathB (mkS (s.1.data.toList.drop 5)) = true then some (mkS (s.1.data.toList.drop 5)) else none := by
  unfold fileS
  have h : s.1.data.toList.take 5 = [102, 105, 108, 101, 58] ↔ Lib.hasPrefix s.1.data.toList [102, 105, 108, 101, 58] = true := by
    rw [← Lib.hasPrefix_of_take]
    simp only [List.length_cons, List.length_nil, Bool.and_eq_true, decide_eq_true_eq, beq_iff_eq]
    constructor
    · intro e
      refine ⟨?_, e⟩
      have := congrArg List.length e
      rw [List.length_take] at this
      simp at this
      simp
      omega
    · exact fun e => e.2
  simp only [h]
end Go.Proofs.YtjkijknjngiieaaGreatDoor

namespace Go.Proofs.YtjkijknjngiieaaGreatDoor
open Go.ChangeShapes Go.WideShapes Go.ChangeAt Go.RowKit
theorem bounds_u64 {n : Int} (h : (Lit.int .u64 n).wf = true) : 0 ≤ n ∧ n ≤ 18446744073709551615 := by
  simp [Lit.wf, IntKind.min, IntKind.max, IntKind.signed, IntKind.bits] at h
  omega
theorem leaf_u64 {H : Type} {enc : TypeId × Value → H} {P : Program} {w : World} {base : Nat} {sp : Nat → Bool} {hd : Bool} {t : TypeId} {fuel : Nat} {cs : List Value} {x : DataW H × List MemPlace} (ht : P.underlying t = some (.int .u64)) (h : DataW.trod enc P w base sp hd fuel t cs = some x) : ∃ n : U64, cs = [.int .u64 n.1] := by
  obtain ⟨n, e, _, z⟩ := DataW.trod_int ht h
  exact ⟨⟨n, bounds_u64 z⟩, e⟩
def outRE (x : OutR) : List Value := [.string x.name.1, .int .u64 x.digest.1, .int .i64 x.size.1]
theorem outRE_len (x : OutR) : (outRE x).length = 3 := rfl
theorem outRE_one (x : OutR) : ∀ u ∈ outRE x, u.oneCell' = true := by
  intro u hu
  simp only [outRE, List.mem_cons, List.not_mem_nil, or_false] at hu
  rcases hu with rfl | rfl | rfl <;> rfl
set_option maxRecDepth 100000 in
theorem outRE_of {H : Type} {enc : TypeId × Value → H} {w : World} {base : Nat} {sp : Nat → Bool} {hd : Bool} (fuel : Nat) (cs : List Value) (x : DataW H × List MemPlace) (h : DataW.trod enc Tryz.prog w base sp hd fuel 29 cs = some x) : ∃ y : OutR, cs = outRE y := by
  obtain ⟨hl, hf⟩ := trod_fields Tryz.underlying29 h
  rw [show Tryz.prog.cellsOf 29 = 3 by kernel_rfl] at hl
  match cs, hl with
  | [c0, c1, c2], _ =>
    obtain ⟨n0, y0, h0⟩ := hf 0 _ rfl
    change DataW.trod _ _ _ _ _ _ _ 9 (List.take (Tryz.prog.cellsOf 9) (List.drop 0 _)) = _ at h0
    rw [show Tryz.prog.cellsOf 9 = 1 by kernel_rfl] at h0
    obtain ⟨v0, e0⟩ := leaf_string Tryz.underlying9 h0
    simp at e0
    obtain ⟨n1, y1, h1⟩ := hf 1 _ rfl
    change DataW.trod _ _ _ _ _ _ _ 26 (List.take (Tryz.prog.cellsOf 26) (List.drop 1 _)) = _ at h1
    rw [show Tryz.prog.cellsOf 26 = 1 by kernel_rfl] at h1
    obtain ⟨v1, e1⟩ := leaf_u64 Tryz.underlying26 h1
    simp at e1
    obtain ⟨n2, y2, h2⟩ := hf 2 _ rfl
    change DataW.trod _ _ _ _ _ _ _ 3 (List.take (Tryz.prog.cellsOf 3) (List.drop 2 _)) = _ at h2
    rw [show Tryz.prog.cellsOf 3 = 1 by kernel_rfl] at h2
    obtain ⟨v2, e2⟩ := leaf_int Tryz.underlying3 h2
    simp at e2
    subst e0 e1 e2
    exact ⟨⟨v0, v1, v2⟩, rfl⟩
theorem leaf_outs {H : Type} {enc : TypeId × Value → H} {w : World} {fuel : Nat} {cs : List Value} {x : DataW H × List MemPlace} (h : DataW.trod enc Tryz.prog w 0 (fun _ => true) true fuel 27 cs = some x) :
    ∃ (A : Option Addr) (l : List OutR) (c : Nat), cs = [.slice A l.length c] ∧ l.length ≤ c ∧ c ≤ maxLen ∧ Rw outRE 3 w w.heap.size A l := by
  obtain ⟨A, l, c, e, h1, h2, h3, _⟩ := cells_rows (α := OutR) (E := outRE) (Q := fun _ => True) outRE_len (by omega) Tryz.underlying27 (by kernel_rfl) (fun fuel cs x h => by
    obtain ⟨s, e⟩ := outRE_of fuel cs x h
    exact ⟨s, e, trivial⟩) h
  exact ⟨A, l, c, e, h1, h2, h3⟩
structure Lkr where
  run : Str
  job : Str
  attempt : I64
  spec : U64
  insA : Option Addr
  insC : Nat
  ins : List OutR
  name : Str
  digest : U64
  size : I64
deriving Inhabited
def lkrE (x : Lkr) : List Value := [.string x.run.1, .string x.job.1, .int .i64 x.attempt.1, .int .u64 x.spec.1, .slice x.insA x.ins.length x.insC, .string x.name.1, .int .u64 x.digest.1, .int .i64 x.size.1]
theorem lkrE_len (x : Lkr) : (lkrE x).length = 8 := rfl
theorem lkrE_one (x : Lkr) : ∀ u ∈ lkrE x, u.oneCell' = true := by
  intro u hu
  simp only [lkrE, List.mem_cons, List.not_mem_nil, or_false] at hu
  rcases hu with rfl | rfl | rfl | rfl | rfl | rfl | rfl | rfl <;> rfl
/-- The slices within read as what they hold, below a block. -/
def LabLkr (w : World) (B : Nat) (x : Lkr) : Prop := x.ins.length ≤ x.insC ∧ x.insC ≤ maxLen ∧ Rw outRE 3 w B x.insA x.ins
theorem LabLkr.keep {w w' : World} {B : Nat} {x : Lkr} (h : LabLkr w B x) (hk : ∀ p : Addr, p.block < B → w'.cell? p = w.cell? p) : LabLkr w' B x := ⟨h.1, h.2.1, h.2.2.keep hk⟩
theorem LabLkr.more {w : World} {B B' : Nat} {x : Lkr} (h : LabLkr w B x) (hB : B ≤ B') : LabLkr w B' x := ⟨h.1, h.2.1, h.2.2.more hB⟩
theorem LabLkr.below {w w' : World} {B C : Nat} {x : Lkr} (h : LabLkr w B x) (hb : Below C w w') (hB : B ≤ C) : LabLkr w' B x := h.keep fun _ hp => hb.cell (by omega)
set_option maxRecDepth 100000 in
theorem lkrE_of {H : Type} {enc : TypeId × Value → H} {w : World}  (fuel : Nat) (cs : List Value) (x : DataW H × List MemPlace) (h : DataW.trod enc Tryz.prog w 0 (fun _ => true) true fuel 31 cs = some x) : ∃ y : Lkr, cs = lkrE y ∧ LabLkr w w.heap.size y := by
  obtain ⟨hl, hf⟩ := trod_fields Tryz.underlying31 h
  rw [show Tryz.prog.cellsOf 31 = 8 by kernel_rfl] at hl
  match cs, hl with
  | [c0, c1, c2, c3, c4, c5, c6, c7], _ =>
    obtain ⟨nhs0, yhs0, hs0⟩ := hf 0 _ rfl
    change DataW.trod _ _ _ _ _ _ _ 24 (List.take (Tryz.prog.cellsOf 24) (List.drop 0 _)) = _ at hs0
    rw [show Tryz.prog.cellsOf 24 = 2 by kernel_rfl] at hs0
    obtain ⟨_, hfhs0⟩ := trod_fields Tryz.underlying24 hs0
    obtain ⟨n0, y0, h0⟩ := hfhs0 0 _ rfl
    change DataW.trod _ _ _ _ _ _ _ 9 (List.take (Tryz.prog.cellsOf 9) (List.drop 0 _)) = _ at h0
    rw [show Tryz.prog.cellsOf 9 = 1 by kernel_rfl] at h0
    obtain ⟨v0, e0⟩ := leaf_string Tryz.underlying9 h0
    simp at e0
    obtain ⟨n1, y1, h1⟩ := hfhs0 1 _ rfl
    change DataW.trod _ _ _ _ _ _ _ 9 (List.take (Tryz.prog.cellsOf 9) (List.drop 1 _)) = _ at h1
    rw [show Tryz.prog.cellsOf 9 = 1 by kernel_rfl] at h1
    obtain ⟨v1, e1⟩ := leaf_string Tryz.underlying9 h1
    simp at e1
    obtain ⟨n2, y2, h2⟩ := hf 1 _ rfl
    change DataW.trod _ _ _ _ _ _ _ 3 (List.take (Tryz.prog.cellsOf 3) (List.drop 2 _)) = _ at h2
    rw [show Tryz.prog.cellsOf 3 = 1 by kernel_rfl] at h2
    obtain ⟨v2, e2⟩ := leaf_int Tryz.underlying3 h2
    simp at e2
    obtain ⟨n3, y3, h3⟩ := hf 2 _ rfl
    change DataW.trod _ _ _ _ _ _ _ 26 (List.take (Tryz.prog.cellsOf 26) (List.drop 3 _)) = _ at h3
    rw [show Tryz.prog.cellsOf 26 = 1 by kernel_rfl] at h3
    obtain ⟨v3, e3⟩ := leaf_u64 Tryz.underlying26 h3
    simp at e3
    obtain ⟨n4, y4, h4⟩ := hf 3 _ rfl
    change DataW.trod _ _ _ _ _ _ _ 27 (List.take (Tryz.prog.cellsOf 27) (List.drop 4 _)) = _ at h4
    rw [show Tryz.prog.cellsOf 27 = 1 by kernel_rfl] at h4
    obtain ⟨A4, v4, C4, e4, q4⟩ := leaf_outs h4
    simp at e4
    obtain ⟨nhs5, yhs5, hs5⟩ := hf 4 _ rfl
    change DataW.trod _ _ _ _ _ _ _ 29 (List.take (Tryz.prog.cellsOf 29) (List.drop 5 _)) = _ at hs5
    rw [show Tryz.prog.cellsOf 29 = 3 by kernel_rfl] at hs5
    obtain ⟨_, hfhs5⟩ := trod_fields Tryz.underlying29 hs5
    obtain ⟨n5, y5, h5⟩ := hfhs5 0 _ rfl
    change DataW.trod _ _ _ _ _ _ _ 9 (List.take (Tryz.prog.cellsOf 9) (List.drop 0 _)) = _ at h5
    rw [show Tryz.prog.cellsOf 9 = 1 by kernel_rfl] at h5
    obtain ⟨v5, e5⟩ := leaf_string Tryz.underlying9 h5
    simp at e5
    obtain ⟨n6, y6, h6⟩ := hfhs5 1 _ rfl
    change DataW.trod _ _ _ _ _ _ _ 26 (List.take (Tryz.prog.cellsOf 26) (List.drop 1 _)) = _ at h6
    rw [show Tryz.prog.cellsOf 26 = 1 by kernel_rfl] at h6
    obtain ⟨v6, e6⟩ := leaf_u64 Tryz.underlying26 h6
    simp at e6
    obtain ⟨n7, y7, h7⟩ := hfhs5 2 _ rfl
    change DataW.trod _ _ _ _ _ _ _ 3 (List.take (Tryz.prog.cellsOf 3) (List.drop 2 _)) = _ at h7
    rw [show Tryz.prog.cellsOf 3 = 1 by kernel_rfl] at h7
    obtain ⟨v7, e7⟩ := leaf_int Tryz.underlying3 h7
    simp at e7
    subst e0 e1 e2 e3 e4 e5 e6 e7
    exact ⟨⟨v0, v1, v2, v3, A4, C4, v4, v5, v6, v7⟩, rfl, q4.1, q4.2.1, q4.2.2⟩
/-- A link without where its inputs lie. -/
def Lkr.h (x : Lkr) : Lnk := ⟨x.run, x.job, x.attempt, x.spec, x.ins, ⟨x.name, x.digest, x.size⟩⟩
/-- A list of links that reads as one, with their inputs. -/
structure RwL (w : World) (B : Nat) (A : Option Addr) (l : List Lkr) : Prop where
  row : Rw lkrE 8 w B A l
  labs : ∀ x ∈ l, LabLkr w B x
theorem RwL.below {w w' : World} {B C : Nat} {A : Option Addr} {l : List Lkr} (h : RwL w B A l) (hb : Below C w w') (hB : B ≤ C) : RwL w' B A l := ⟨h.row.below hb hB, fun x hx => (h.labs x hx).below hb hB⟩
theorem RwL.more {w : World} {B B' : Nat} {A : Option Addr} {l : List Lkr} (h : RwL w B A l) (hB : B ≤ B') : RwL w B' A l := ⟨h.row.more hB, fun x hx => (h.labs x hx).more hB⟩
theorem RwL.nil {w : World} {B : Nat} {A : Option Addr} : RwL w B A [] := ⟨Rw.nil, fun _ h => absurd h (by simp)⟩
end Go.Proofs.YtjkijknjngiieaaGreatDoor
