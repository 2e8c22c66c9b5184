/-
  Plain laws of strictly ascending lists: there is one of given elements; a sorted list without its repetitions; an element put into its place.
-/
import Derived.Sort.Statements
import Derived.Lib.SlicesCompact
import Derived.Shelf.SlSortCmp.NoneTotal
namespace Go.Proofs.YtnahbfmbmpoljaaGreatDoor
open Go.Sort Go.Lib

structure Ord3 {α : Type} (cf : α → α → Int) : Prop where
  zero : ∀ a b, cf a b = 0 ↔ a = b
  neg : ∀ a b, cf b a = - cf a b
  trans : ∀ a b c, cf a b < 0 → cf b c < 0 → cf a c < 0

section
variable {α : Type} {cf : α → α → Int}

/-- Strictly ascending. -/
abbrev Asc (cf : α → α → Int) (l : List α) : Prop := l.Pairwise fun a b => cf a b < 0
/-- The strictly ascending list of the elements of l. -/
def IsSrt (cf : α → α → Int) (l out : List α) : Prop := Asc cf out ∧ ∀ x, x ∈ out ↔ x ∈ l

theorem Ord3.irrefl (h : Ord3 cf) (a : α) : ¬ cf a a < 0 := by rw [(h.zero a a).2 rfl]; omega
theorem Ord3.asymm (h : Ord3 cf) {a b : α} (h1 : cf a b < 0) : ¬ cf b a < 0 := by rw [h.neg a b]; omega
theorem Ord3.total (h : Ord3 cf) {a b : α} (h1 : ¬ cf a b < 0) (h2 : a ≠ b) : cf b a < 0 := by
  have := mt (h.zero a b).1 h2
  rw [h.neg a b]; omega

theorem asc_unique (hO : Ord3 cf) : ∀ {l m : List α}, Asc cf l → Asc cf m → (∀ x, x ∈ l ↔ x ∈ m) → l = m
  | [], [], _, _, _ => rfl
  | [], b :: m, _, _, h => by have := (h b).2 (by simp); simp at this
  | a :: l, [], _, _, h => by have := (h a).1 (by simp); simp at this
  | a :: l, b :: m, hl, hm, h => by
    rw [Asc, List.pairwise_cons] at hl hm
    have hab : a = b := by
      have ha := (h a).1 (by simp)
      have hb := (h b).2 (by simp)
      rcases List.mem_cons.1 ha with e | ha
      · exact e
      · rcases List.mem_cons.1 hb with e | hb
        · exact e.symm
        · exact absurd (hl.1 b hb) (hO.asymm (hm.1 a ha))
    subst hab
    congr 1
    refine asc_unique hO hl.2 hm.2 fun x => ⟨fun hx => ?_, fun hx => ?_⟩
    · rcases List.mem_cons.1 ((h x).1 (List.mem_cons_of_mem _ hx)) with e | h'
      · subst e; exact absurd (hl.1 _ hx) (hO.irrefl _)
      · exact h'
    · rcases List.mem_cons.1 ((h x).2 (List.mem_cons_of_mem _ hx)) with e | h'
      · subst e; exact absurd (hm.1 _ hx) (hO.irrefl _)
      · exact h'

theorem IsSrt.unique (hO : Ord3 cf) {l o1 o2 : List α} (h1 : IsSrt cf l o1) (h2 : IsSrt cf l o2) : o1 = o2 :=
  asc_unique hO h1.1 h2.1 fun x => (h1.2 x).trans (h2.2 x).symm

theorem swo_of (hO : Ord3 cf) : SWO (ltOf cf) where
  irrefl x := by unfold ltOf; simpa using Int.not_lt.1 (hO.irrefl x)
  trans x y z h1 h2 := by unfold ltOf at *; simp at *; exact hO.trans x y z h1 h2
  ntrans x y z h1 h2 := by
    unfold ltOf at *; simp at *
    rcases Int.lt_or_le (cf x z) 0 with h | h
    · exfalso
      have h3 : ¬ cf y x > 0 := by rw [hO.neg x y]; omega
      by_cases e : x = y
      · subst e; omega
      · have h4 : cf y x < 0 := hO.total (by omega) e
        have := hO.trans y x z h4 h
        omega
    · exact h
theorem tot_of (hO : Ord3 cf) (x y : α) (h1 : ltOf cf x y = false) (h2 : ltOf cf y x = false) : x = y := by
  unfold ltOf at *; simp at *
  rw [hO.neg x y] at h2
  exact (hO.zero x y).1 (by omega)

/-- An element put into its place. -/
theorem put_srt (hO : Ord3 cf) {l out : List α} {x : α} {at_ : Nat} (h : IsSrt cf l out) (hat : at_ ≤ out.length) (hhi : ∀ i y, at_ ≤ i → out[i]? = some y → cf x y < 0)
    (hlo : ∀ y, 0 < at_ → out[at_ - 1]? = some y → cf y x < 0) : IsSrt cf (l ++ [x]) ((out.take at_ ++ [x]) ++ out.drop at_) := by
  obtain ⟨ha, hm⟩ := h
  have hsplit : out.take at_ ++ out.drop at_ = out := List.take_append_drop _ _
  have ha2 := ha
  rw [← hsplit, Asc, List.pairwise_append] at ha2
  obtain ⟨p1, p2, p3⟩ := ha2
  have hdrop : ∀ y, y ∈ out.drop at_ → cf x y < 0 := by
    intro y hy
    obtain ⟨i, hi, he⟩ := List.mem_iff_getElem.1 hy
    refine hhi (at_ + i) y (by omega) ?_
    rw [List.getElem_drop] at he
    rw [List.length_drop] at hi
    rw [List.getElem?_eq_getElem (by omega), he]
  have htake : ∀ y, y ∈ out.take at_ → cf y x < 0 := by
    intro y hy
    obtain ⟨i, hi, he⟩ := List.mem_iff_getElem.1 hy
    rw [List.length_take] at hi
    rw [List.getElem_take] at he
    have hpos : 0 < at_ := by omega
    have hlast := hlo (out[at_ - 1]'(by omega)) hpos (List.getElem?_eq_getElem (by omega))
    by_cases hi2 : i = at_ - 1
    · subst hi2; rw [← he]; exact hlast
    · rw [← he]
      exact hO.trans _ _ _ ((List.pairwise_iff_getElem.1 ha) i (at_ - 1) (by omega) (by omega) (by omega)) hlast
  refine ⟨?_, fun y => ?_⟩
  · rw [Asc, List.append_assoc, List.pairwise_append]
    refine ⟨p1, ?_, ?_⟩
    · simp only [List.cons_append, List.nil_append, List.pairwise_cons]
      exact ⟨hdrop, p2⟩
    · intro a h1 b h2
      rcases List.mem_cons.1 (by simpa using h2) with e | h2
      · subst e; exact htake a h1
      · exact p3 a h1 b h2
  · rw [List.mem_append, List.mem_append, List.mem_append, ← hm y]
    conv => rhs; rw [← hsplit, List.mem_append]
    simp only [List.mem_cons, List.not_mem_nil, or_false]
    constructor
    · rintro ((h | h) | h)
      · exact .inl (.inl h)
      · exact .inr h
      · exact .inl (.inr h)
    · rintro ((h | h) | h)
      · exact .inl (.inl h)
      · exact .inr h
      · exact .inl (.inr h)

theorem IsSrt.again {l out : List α} {x : α} (h : IsSrt cf l out) (hx : x ∈ out) : IsSrt cf (l ++ [x]) out :=
  ⟨h.1, fun y => by
    rw [List.mem_append, ← h.2 y]
    constructor
    · exact .inl
    · rintro (h' | h')
      · exact h'
      · simp at h'; subst h'; exact hx⟩

variable [Inhabited α] [DecidableEq α]

/-- A sorted list without its repetitions is strictly ascending, of the same elements. -/
theorem compact_srt (hO : Ord3 cf) {l : List α} (hs : l.Pairwise fun a b => ¬ cf b a < 0) : IsSrt cf l (compact l) := by
  have hget : ∀ i, i < l.length → l.toArray[i]! = l[i]?.getD default := fun i hi => by
    rw [getElem!_def]; simp [hi]
  have hle : ∀ i j, i ≤ j → j < l.length → ¬ cf (l.toArray[j]!) (l.toArray[i]!) < 0 := by
    intro i j hij hj
    rw [hget i (by omega), hget j hj]
    rcases Nat.lt_or_ge i j with h | h
    · have := (List.pairwise_iff_getElem.1 hs) i j (by omega) hj h
      simpa [hj, show i < l.length by omega] using this
    · obtain rfl : i = j := by omega
      exact hO.irrefl _
  unfold compact compactUpTo
  refine ⟨?_, fun x => ?_⟩
  · rw [Asc, List.pairwise_map]
    refine List.Pairwise.imp_of_mem ?_ (List.Pairwise.filter _ List.pairwise_lt_range)
    intro i j hi hj hij
    have hj2 := List.mem_filter.1 hj
    have hjl : j < l.length := by simpa using hj2.1
    have hk := hj2.2
    simp only [keeps, decide_eq_true_eq] at hk
    have hne : l.toArray[j]! ≠ l.toArray[j - 1]! := by rcases hk with h | h; omega; exact h
    have h1 : cf (l.toArray[j - 1]!) (l.toArray[j]!) < 0 := hO.total (hle (j - 1) j (by omega) hjl) hne
    by_cases he : l.toArray[i]! = l.toArray[j - 1]!
    · rw [he]; exact h1
    · exact hO.trans _ _ _ (hO.total (hle i (j - 1) (by omega) (by omega)) (Ne.symm he)) h1
  · simp only [List.mem_map, List.mem_filter, List.mem_range]
    constructor
    · rintro ⟨i, ⟨hi, _⟩, rfl⟩
      rw [hget i hi]; simp [hi]
    · intro hx
      obtain ⟨i, hi, he⟩ := List.mem_iff_getElem.1 hx
      -- the first place of this element
      have : ∀ n i, i ≤ n → i < l.length → l.toArray[i]! = x → ∃ j, (j < l.length ∧ keeps l.toArray j = true) ∧ l.toArray[j]! = x := by
        intro n
        induction n with
        | zero =>
          intro i hi hl hx
          obtain rfl : i = 0 := by omega
          exact ⟨0, ⟨hl, by simp [keeps]⟩, hx⟩
        | succ n ih =>
          intro i hi hl hx
          by_cases hk : keeps l.toArray i = true
          · exact ⟨i, ⟨hl, hk⟩, hx⟩
          · simp only [keeps, decide_eq_true_eq, not_or, Decidable.not_not] at hk
            exact ih (i - 1) (by omega) (by omega) (by rw [← hk.2]; exact hx)
      exact this i i (Nat.le_refl _) hi (by rw [hget i hi]; simp [hi, he])

/-- The strictly ascending list of the elements of l, as a function. -/
def srtOf (cf : α → α → Int) (l : List α) : List α := compact (l.mergeSort fun x y => !ltOf cf y x)
theorem srtOf_is (hO : Ord3 cf) (l : List α) : IsSrt cf l (srtOf cf l) := by
  have hS := swo_of hO
  have hp := List.pairwise_mergeSort (le := fun x y => !ltOf cf y x) (fun a b c h1 h2 => by
    simp only [Bool.not_eq_true'] at *
    exact hS.ntrans c b a h2 h1) (fun a b => by
    simp only [Bool.or_eq_true, Bool.not_eq_true']
    rcases h : ltOf cf b a with _ | _
    · exact .inl rfl
    · refine .inr ?_
      rcases h2 : ltOf cf a b with _ | _
      · rfl
      · have := hS.trans b a b h h2; rw [hS.irrefl] at this; cases this) l
  have hp2 : (l.mergeSort fun x y => !ltOf cf y x).Pairwise fun a b => ¬ cf b a < 0 := hp.imp fun {a b} h => by
    simp only [Bool.not_eq_true', ltOf, decide_eq_false_iff_not] at h
    exact h
  have h := compact_srt hO hp2
  exact ⟨h.1, fun x => (h.2 x).trans List.mem_mergeSort⟩
theorem srtOf_eq (hO : Ord3 cf) {l out : List α} (h : IsSrt cf l out) : out = srtOf cf l := h.unique hO (srtOf_is hO l)
end
end Go.Proofs.YtnahbfmbmpoljaaGreatDoor
