/-
  Workers: lists of workers, and what a worker that joins becomes (plain).
-/
import Derived.Test.YtnahbfmbmpoljaaDoorWk6
import Derived.Test.YtnahbfmbmpoljaaDoorStab

namespace Go.Proofs.YtnahbfmbmpoljaaDoor
open Go.RowKit

theorem bsr_yes {q : Nat → Bool} {i j : Nat} (h : i < j) (hq : q ((i + j) / 2) = true) : bsr q i j = bsr q ((i + j) / 2 + 1) j := by rw [bsr, dif_pos h, if_pos hq]
theorem bsr_no {q : Nat → Bool} {i j : Nat} (h : i < j) (hq : q ((i + j) / 2) = false) : bsr q i j = bsr q i ((i + j) / 2) := by rw [bsr, dif_pos h, if_neg (by rw [hq]; decide)]
theorem bsr_end {q : Nat → Bool} {i j : Nat} (h : ¬ i < j) : bsr q i j = i := by rw [bsr, dif_neg h]
def isName (p : Str) (x : Work) : Bool := x.id.1.toList == p.1.toList
/-- The place of a name, -1 if there is none. -/
def findN (p : Str) (l : List Work) : Int := if l.findIdx (isName p) < l.length then (l.findIdx (isName p) : Int) else -1
theorem findIdx_at {α : Type} {p : α → Bool} {l : List α} {k : Nat} {x : α} (h : (l.take k).all (fun y => !p y) = true) (hx : l[k]? = some x) (hp : p x = true) : l.findIdx p = k := by
  obtain ⟨hk, rfl⟩ := List.getElem?_eq_some_iff.1 hx
  refine (List.findIdx_eq hk).2 ⟨hp, fun j hj => ?_⟩
  have := List.all_eq_true.1 h (l[j]'(by omega)) (by rw [List.mem_take_iff_getElem]; exact ⟨j, by omega, rfl⟩)
  simpa using this
theorem findN_at {p : Str} {l : List Work} {k : Nat} {x : Work} (h : (l.take k).all (fun y => !isName p y) = true) (hx : l[k]? = some x) (hp : isName p x = true) : findN p l = k := by
  have hk := (List.getElem?_eq_some_iff.1 hx).1
  unfold findN
  rw [findIdx_at h hx hp, if_pos hk]
theorem findN_none {p : Str} {l : List Work} (h : l.all (fun y => !isName p y) = true) : findN p l = -1 := by
  unfold findN
  rw [if_neg]
  rw [List.findIdx_lt_length]
  rintro ⟨x, hx, hp⟩
  have := List.all_eq_true.1 h x hx
  rw [hp] at this; cases this
/-- Where a name is, or would be put; whether it is there; how many stand ahead of it. -/
def atN (p : Str) (l : List Work) : Nat := bsr (fun h => decide (cmpS l[h]!.id p < 0)) 0 l.length
def hasN (p : Str) (l : List Work) : Bool := decide (atN p l < l.length) && decide (cmpS l[atN p l]!.id p = 0)
def plN (p : Str) (l : List Work) : Nat := (l.takeWhile fun y => decide (cmpS y.id p < 0)).length
theorem plN_at {p : Str} {l : List Work} {k : Nat} (hk : k ≤ l.length) (ht : ∀ j y, j < k → l[j]? = some y → cmpS y.id p < 0) (hf : ∀ y, l[k]? = some y → ¬ cmpS y.id p < 0) : plN p l = k := by
  unfold plN
  induction l generalizing k with
  | nil => simp at hk; subst hk; rfl
  | cons a l ih =>
    rcases k with _ | k
    · have := hf a rfl
      rw [List.takeWhile_cons_of_neg (by simpa using this)]; rfl
    · have h0 := ht 0 a (by omega) rfl
      rw [List.takeWhile_cons_of_pos (by simpa using h0), List.length_cons, ih (by simpa using hk) (fun j y hj hy => ht (j + 1) y (by omega) hy) (fun y hy => hf y hy)]
theorem plN_le (p : Str) (l : List Work) : plN p l ≤ l.length := (List.takeWhile_prefix _).length_le
/-- Each name comes behind the ones before. -/
def AscN (l : List Work) : Prop := ∀ (i j : Nat) (x y : Work), i < j → l[i]? = some x → l[j]? = some y → cmpS x.id y.id < 0
theorem asc_of_steps {l : List Work} (h : ∀ (k : Nat) (x y : Work), l[k + 1]? = some x → l[k]? = some y → cmpS y.id x.id < 0) : AscN l := by
  intro i j
  induction j with
  | zero => intro x y hij; omega
  | succ j ih =>
    intro x y hij hx hy
    obtain ⟨z, hz⟩ := get_some (show j < l.length by have := (List.getElem?_eq_some_iff.1 hy).1; omega)
    have h1 := h j y z hy hz
    by_cases e : i = j
    · subst e
      rw [hx] at hz
      obtain rfl : x = z := by simpa using hz
      exact h1
    · exact ord_str.trans _ _ _ (ih x z (by omega) hx hz) h1
theorem atN_spec {l : List Work} (ha : AscN l) (p : Str) : atN p l ≤ l.length ∧ (∀ j y, j < atN p l → l[j]? = some y → cmpS y.id p < 0) ∧ (∀ j y, atN p l ≤ j → l[j]? = some y → ¬ cmpS y.id p < 0) := by
  obtain ⟨_, h2, h3, h4⟩ := bsr_spec (fun h => decide (cmpS l[h]!.id p < 0)) l.length 0 l.length (by omega) (Nat.zero_le _) (fun c c' _ hcc hc' hq => by
    obtain ⟨x, hx⟩ := get_some (show c < l.length by omega)
    obtain ⟨y, hy⟩ := get_some hc'
    simp only [get_bang hx, get_bang hy, decide_eq_false_iff_not] at hq ⊢
    rcases Nat.lt_or_eq_of_le hcc with hlt | rfl
    · exact fun h => hq (ord_str.trans _ _ _ (ha c c' x y hlt hx hy) h)
    · rw [hx] at hy
      obtain rfl : x = y := by simpa using hy
      exact hq)
  refine ⟨h2, fun j y hj hy => ?_, fun j y hj hy => ?_⟩
  · have := h3 j (Nat.zero_le _) hj
    simpa [get_bang hy] using this
  · have := h4 j hj (List.getElem?_eq_some_iff.1 hy).1
    simpa [get_bang hy] using this
theorem isName_iff {p : Str} {x : Work} : isName p x = true ↔ x.id = p := by unfold isName; rw [eq_str, decide_eq_true_eq]
theorem cmp_ne {a b : Str} (h : cmpS a b < 0) : a ≠ b := fun e => by rw [(ord_str.zero a b).2 e] at h; omega
/-- Where a name is: found by both, or by neither. -/
theorem find_cases {l : List Work} (ha : AscN l) (p : Str) : (hasN p l = true ∧ findN p l = (atN p l : Int) ∧ ∃ x, l[atN p l]? = some x ∧ x.id = p) ∨ (hasN p l = false ∧ findN p l = -1 ∧ plN p l = atN p l ∧ atN p l ≤ l.length ∧ ∀ x ∈ l, x.id ≠ p) := by
  obtain ⟨h1, h2, h3⟩ := atN_spec ha p
  by_cases hlt : atN p l < l.length
  · obtain ⟨x, hx⟩ := get_some hlt
    by_cases hz : cmpS x.id p = 0
    · have hxp := (ord_str.zero _ _).1 hz
      refine Or.inl ⟨?_, ?_, x, hx, hxp⟩
      · unfold hasN; rw [get_bang hx, hz, decide_eq_true hlt]; rfl
      · refine findN_at ?_ hx (isName_iff.2 hxp)
        rw [List.all_eq_true]
        intro y hy
        obtain ⟨j, hj⟩ := List.getElem?_of_mem hy
        rw [List.getElem?_take] at hj
        split at hj
        · rename_i hjl
          have := cmp_ne (h2 j y hjl hj)
          rw [Bool.not_eq_true', ← Bool.not_eq_true]
          exact fun e => this (isName_iff.1 e)
        · cases hj
    · have hgt : cmpS p x.id < 0 := by have := h3 _ x (Nat.le_refl _) hx; rw [ord_str.neg x.id p]; omega
      have hno : ∀ y ∈ l, y.id ≠ p := fun y hy e => by
        obtain ⟨j, hj⟩ := List.getElem?_of_mem hy
        rcases Nat.lt_trichotomy j (atN p l) with h | h | h
        · exact cmp_ne (h2 j y h hj) e
        · subst h
          rw [hx] at hj
          obtain rfl : x = y := by simpa using hj
          exact hz ((ord_str.zero _ _).2 e)
        · exact cmp_ne (ord_str.trans _ _ _ hgt (ha _ _ x y h hx hj)) e.symm
      refine Or.inr ⟨?_, ?_, ?_, h1, hno⟩
      · unfold hasN; rw [get_bang hx, decide_eq_false hz, Bool.and_false]
      · refine findN_none ?_
        rw [List.all_eq_true]
        intro y hy
        rw [Bool.not_eq_true', ← Bool.not_eq_true]
        exact fun e => hno y hy (isName_iff.1 e)
      · exact plN_at h1 (fun j y hj hy => h2 j y hj hy) (fun y hy => h3 _ y (Nat.le_refl _) hy)
  · have hno : ∀ y ∈ l, y.id ≠ p := fun y hy e => by
      obtain ⟨j, hj⟩ := List.getElem?_of_mem hy
      have := (List.getElem?_eq_some_iff.1 hj).1
      exact cmp_ne (h2 j y (by omega) hj) e
    refine Or.inr ⟨?_, ?_, ?_, h1, hno⟩
    · unfold hasN; rw [decide_eq_false hlt]; rfl
    · refine findN_none ?_
      rw [List.all_eq_true]
      intro y hy
      rw [Bool.not_eq_true', ← Bool.not_eq_true]
      exact fun e => hno y hy (isName_iff.1 e)
    · exact plN_at h1 (fun j y hj hy => h2 j y hj hy) (fun y hy => h3 _ y (Nat.le_refl _) hy)
def okAt (l : List Work) (i : Nat) : Bool := (wErr l[i]! == 0) && (decide (i = 0) || decide (cmpS l[i - 1]!.id l[i]!.id < 0))
def rightB (l : List Work) : Bool := decide (l.length ≤ 256) && (List.range l.length).all (okAt l)
theorem okAt_zero {l : List Work} {x : Work} (hx : l[0]? = some x) : okAt l 0 = (wErr x == 0) := by
  unfold okAt; rw [get_bang hx]; simp
theorem okAt_succ {l : List Work} {k : Nat} {x y : Work} (hx : l[k + 1]? = some x) (hy : l[k]? = some y) : okAt l (k + 1) = ((wErr x == 0) && decide (cmpS y.id x.id < 0)) := by
  unfold okAt; rw [get_bang hx, Nat.add_sub_cancel, get_bang hy]; simp
theorem right_false {l : List Work} {k : Nat} (hk : k < l.length) (h : okAt l k = false) : rightB l = false := by
  unfold rightB; rw [range_false _ hk h, Bool.and_false]
theorem right_all {l : List Work} (h : (List.range l.length).all (okAt l) = true) : rightB l = decide (l.length ≤ 256) := by
  unfold rightB; rw [h, Bool.and_true]
theorem right_at {l : List Work} (h : rightB l = true) {k : Nat} (hk : k < l.length) : okAt l k = true := by
  unfold rightB at h
  rw [Bool.and_eq_true, List.all_eq_true] at h
  exact h.2 k (List.mem_range.2 hk)
theorem right_len {l : List Work} (h : rightB l = true) : l.length ≤ 256 := by
  unfold rightB at h
  rw [Bool.and_eq_true, decide_eq_true_eq] at h
  exact h.1
theorem right_asc {l : List Work} (h : rightB l = true) : AscN l := asc_of_steps fun k x y hx hy => by
  have := right_at h (List.getElem?_eq_some_iff.1 hx).1
  rw [okAt_succ hx hy, Bool.and_eq_true, decide_eq_true_eq] at this
  exact this.2
/-- A worker that joins. -/
def newW (x : Work) (now : I64) : Work := ⟨x.id, x.labsA, x.labsC, x.labs, x.trust, x.slots, x.pre, ⟨0, by omega⟩, now, ⟨0, by omega⟩, none, 0, []⟩
def joinE (l : List Work) (x : Work) (now : I64) : Int := if rightB l = false then 1 else if timeB now.1 = false then 2 else if wErr (newW x now) ≠ 0 then wErr (newW x now) else if 0 ≤ findN x.id l then 7 else if 256 ≤ l.length then 21 else 0
def joinL (l : List Work) (x : Work) (now : I64) : List Work := if joinE l x now ≠ 0 then l else l.take (plN x.id l) ++ newW x now :: l.drop (plN x.id l)
end Go.Proofs.YtnahbfmbmpoljaaDoor
