/-
  Plain laws of fairness: the first project of an order that is listed.
-/
import Derived.Test.YtopicpghhpkgbaaDoorFa14
namespace Go.Proofs.YtopicpghhpkgbaaDoor
open Go.RowKit
variable {l s : List Share} {ps : List Str}

theorem findP_mem (ha : AscP l) {x : Share} (hx : x ∈ l) : ∃ k : Nat, findP x.proj l = k ∧ l[k]? = some x := by
  rcases find_cases ha x.proj with ⟨_, h1, y, hy, hp⟩ | ⟨_, _, _, _, hno⟩
  · obtain rfl := asc_inj ha (List.mem_of_getElem? hy) hx hp
    exact ⟨_, h1, hy⟩
  · exact absurd rfl (hno x hx)
theorem asc_nodup (ha : AscP l) : (l.map (·.proj)).Nodup := by
  unfold List.Nodup
  rw [List.pairwise_map, List.pairwise_iff_getElem]
  intro i j hi hj hij
  exact cmp_ne (ha i j _ _ hij (List.getElem?_eq_getElem hi) (List.getElem?_eq_getElem hj))
theorem order_ne (ha : AscP l) (hp : s.Perm l) {i j : Nat} {x y : Share} (hij : j < i) (hx : s[j]? = some x) (hy : s[i]? = some y) : x.proj ≠ y.proj := by
  have h := (hp.map (·.proj)).nodup_iff.2 (asc_nodup ha)
  unfold List.Nodup at h
  rw [List.pairwise_map, List.pairwise_iff_getElem] at h
  obtain ⟨h1, rfl⟩ := List.getElem?_eq_some_iff.1 hx
  obtain ⟨h2, rfl⟩ := List.getElem?_eq_some_iff.1 hy
  exact h j i h1 h2 hij
theorem order_less (hw : s.Pairwise (fun a b => befB b a = false)) {i j : Nat} {x y : Share} (hij : j < i) (hx : s[j]? = some x) (hy : s[i]? = some y) : befB y x = false := by
  rw [List.pairwise_iff_getElem] at hw
  obtain ⟨h1, rfl⟩ := List.getElem?_eq_some_iff.1 hx
  obtain ⟨h2, rfl⟩ := List.getElem?_eq_some_iff.1 hy
  exact hw j i h1 h2 hij
theorem bef_les {x y : Share} (h : befB x y = false) : lesS x y = false := by
  rw [befB_eq, Bool.or_eq_false_iff] at h
  exact h.1

/-- The first of the first i projects of an order that is listed, if there is one. -/
def FW (ps : List Str) (s : List Share) (i : Nat) (b : Share) (f : Bool) : Prop :=
  (f = false ∧ b = zS ∧ ∀ (j : Nat) (x : Share), j < i → s[j]? = some x → x.proj ∉ ps) ∨ (f = true ∧ ∃ i0, i0 < i ∧ s[i0]? = some b ∧ b.proj ∈ ps ∧ ∀ (j : Nat) (x : Share), j < i0 → s[j]? = some x → x.proj ∉ ps)
/-- The same, the next project held against the first j that are listed. -/
def FI (ps : List Str) (s : List Share) (i : Nat) (y b : Share) (f : Bool) (j : Nat) : Prop :=
  (f = true ∧ FW ps s (i + 1) b true) ∨ (f = false ∧ FW ps s i b false ∧ ∀ (j' : Nat) (t : Str), j' < j → ps[j']? = some t → t ≠ y.proj)
variable {i j : Nat} {b y : Share} {f : Bool} {t : Str}
theorem FW.start : FW ps s 0 zS false := Or.inl ⟨rfl, rfl, fun j x h => absurd h (by omega)⟩
theorem FW.enter (h : FW ps s i b f) : FI ps s i y b f 0 := by
  rcases h with ⟨rfl, hb, h⟩ | ⟨rfl, i0, h1, h2⟩
  · exact Or.inr ⟨rfl, Or.inl ⟨rfl, hb, h⟩, fun j' t h => absurd h (by omega)⟩
  · exact Or.inl ⟨rfl, Or.inr ⟨rfl, i0, by omega, h2⟩⟩
theorem FI.no (h : FI ps s i y b false j) (ht : ps[j]? = some t) (hne : t ≠ y.proj) : FI ps s i y b false (j + 1) := by
  rcases h with ⟨h, _⟩ | ⟨_, h1, h2⟩
  · cases h
  · refine Or.inr ⟨rfl, h1, fun j' t' hj ht' => ?_⟩
    by_cases e : j' = j
    · subst e
      rw [ht] at ht'
      obtain rfl : t = t' := by simpa using ht'
      exact hne
    · exact h2 j' t' (by omega) ht'
theorem FI.yes (h : FI ps s i y b false j) (ht : ps[j]? = some t) (he : t = y.proj) (hy : s[i]? = some y) : FI ps s i y y true (j + 1) := by
  rcases h with ⟨h, _⟩ | ⟨_, h1, _⟩
  · cases h
  · rcases h1 with ⟨_, _, h1⟩ | ⟨h, _⟩
    · exact Or.inl ⟨rfl, Or.inr ⟨rfl, i, by omega, hy, by rw [← he]; exact List.mem_of_getElem? ht, h1⟩⟩
    · cases h
theorem FI.leave (h : FI ps s i y b f j) (hj : f = true ∨ ps.length ≤ j) (hy : s[i]? = some y) : FW ps s (i + 1) b f := by
  rcases h with ⟨rfl, h⟩ | ⟨rfl, h1, h2⟩
  · exact h
  · rcases hj with h | hj
    · cases h
    · rcases h1 with ⟨_, hb, h1⟩ | ⟨h, _⟩
      · refine Or.inl ⟨rfl, hb, fun j' x hj' hx hm => ?_⟩
        by_cases e : j' = i
        · subst e
          rw [hy] at hx
          obtain rfl : y = x := by simpa using hx
          obtain ⟨a, ha⟩ := List.getElem?_of_mem hm
          exact h2 a _ (by have := (List.getElem?_eq_some_iff.1 ha).1; omega) ha rfl
        · exact h1 j' x (by omega) hx hm
      · cases h
theorem FW.picked (hpm : s.Perm l) (hpw : s.Pairwise (fun a b => befB b a = false)) (h : FW ps s i b f) (hi : s.length ≤ i) : Picked l ps b f := by
  rcases h with ⟨rfl, hb, h⟩ | ⟨rfl, i0, h1, h2, h3, h4⟩
  · refine ⟨?_, fun _ => hb⟩
    intro y hy hq
    obtain ⟨a, ha⟩ := List.getElem?_of_mem (hpm.mem_iff.2 hy)
    exact h a y (by have := (List.getElem?_eq_some_iff.1 ha).1; omega) ha hq
  · refine ⟨⟨hpm.mem_iff.1 (List.mem_of_getElem? h2), h3, fun y hy hq => ?_⟩, fun h => by cases h⟩
    obtain ⟨a, ha⟩ := List.getElem?_of_mem (hpm.mem_iff.2 hy)
    rcases Nat.lt_trichotomy a i0 with c | c | c
    · exact absurd hq (h4 a y c ha)
    · subst c
      rw [h2] at ha
      obtain rfl : b = y := by simpa using ha
      exact bef_irrefl _
    · exact order_less hpw c h2 ha
end Go.Proofs.YtopicpghhpkgbaaDoor
