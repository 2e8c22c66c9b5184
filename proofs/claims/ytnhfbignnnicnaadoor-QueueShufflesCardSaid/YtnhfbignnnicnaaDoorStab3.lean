/-
  Plain laws of the library's stable sort at fewer than forty elements: what it leaves is the sorted list in which equals keep their order; there is one such list.
-/
import Derived.Test.YtnhfbignnnicnaaDoorStab2
import Derived.Sort.WalkA
namespace Go.Proofs.YtnhfbignnnicnaaDoor
open Go.Sort

section
variable {α : Type} [Inhabited α]

theorem insInner_perm (l : α → α → Bool) (a b : Nat) : ∀ (j : Nat) (d : Array α), j < b → b ≤ d.size → PermIn a b d (insInner l a j d)
  | 0, d, _, _ => by unfold insInner; exact permIn_refl _ _ _
  | j + 1, d, hj, hb => by
    unfold insInner
    split
    · rename_i hc
      simp only [Bool.and_eq_true, decide_eq_true_eq] at hc
      exact permIn_trans _ _ _ a b (swp_permIn d a b (j + 1) j (by omega) hj (by omega) (by omega) hb) (insInner_perm l a b j _ (by omega) (by rw [size_swp]; exact hb))
    · exact permIn_refl _ _ _

theorem insInner_congr {l1 l2 : α → α → Bool} (a : Nat) : ∀ (j : Nat) (d : Array α), j < d.size → (∀ p, a ≤ p → p < j → l1 d[j]! d[p]! = l2 d[j]! d[p]!) → insInner l1 a j d = insInner l2 a j d
  | 0, d, _, _ => by unfold insInner; rfl
  | j + 1, d, hj, hq => by
    unfold insInner
    by_cases h : j + 1 > a
    · rw [hq j (by omega) (by omega)]
      split
      · refine insInner_congr a j _ (by rw [size_swp]; omega) fun p h1 h2 => ?_
        have g := swp_get d hj (show j < d.size by omega)
        rw [g, g, if_pos rfl, if_neg (by omega), if_neg (by omega)]
        exact hq p h1 (by omega)
      · rfl
    · simp [h]

theorem insOuter_congr {l1 l2 : α → α → Bool} (a b : Nat) : ∀ (n i : Nat) (d : Array α), b - i = n → a < i → b ≤ d.size → (∀ p q, a ≤ p → p < q → i ≤ q → q < b → l1 d[q]! d[p]! = l2 d[q]! d[p]!) → insOuter l1 a b i d = insOuter l2 a b i d := by
  intro n
  induction n with
  | zero => intro i d hn _ _ _; rw [insOuter_stop _ _ _ _ _ (by omega), insOuter_stop _ _ _ _ _ (by omega)]
  | succ n ih =>
    intro i d hn hai hb hq
    have hi : i < b := by omega
    rw [insOuter_go _ _ _ _ _ hi, insOuter_go _ _ _ _ _ hi, insInner_congr (l1 := l1) (l2 := l2) a i d (by omega) fun p h1 h2 => hq p i h1 h2 (Nat.le_refl _) hi]
    have hP := insInner_perm l2 a (i + 1) i d (by omega) (by omega)
    refine ih (i + 1) _ (by omega) (by omega) (by rw [hP.1]; exact hb) fun p q h1 h2 h3 h4 => ?_
    rw [hP.2.1 q (Or.inr h3)]
    by_cases hp : p < i + 1
    · exact permIn_all d _ a (i + 1) (fun z => l1 d[q]! z = l2 d[q]! z) (by omega) hP (fun p' k1 k2 => hq p' q k1 (by omega) (by omega) h4) p h1 hp
    · rw [hP.2.1 p (Or.inr (by omega))]
      exact hq p q h1 h2 (by omega) h4

/-- The library's stable sort at fewer than forty elements. -/
def stF (l : α → α → Bool) (d : Array α) : Array α :=
  if d.size < 20 then insertionSort l d 0 d.size
  else if d.size = 20 then insertionSort l d 0 20
  else symF l d.size 0 20 d.size (insertionSort l (insertionSort l d 0 20) 20 d.size)

theorem insertionSort_perm (l : α → α → Bool) (a b : Nat) (d : Array α) (hb : b ≤ d.size) : PermIn a b d (insertionSort l d a b) := by
  have : ∀ (n i : Nat) (d : Array α), b - i = n → b ≤ d.size → PermIn a b d (insOuter l a b i d) := by
    intro n
    induction n with
    | zero => intro i d hn _; rw [insOuter, if_neg (by omega)]; exact permIn_refl _ _ _
    | succ n ih =>
      intro i d hn hb
      rw [insOuter_go _ _ _ _ _ (by omega)]
      have hP := insInner_perm l a b i d (by omega) hb
      exact permIn_trans _ _ _ a b hP (ih (i + 1) _ (by omega) (by rw [hP.1]; exact hb))
  exact this _ _ _ rfl hb

theorem stF_perm (l : α → α → Bool) (d : Array α) : PermIn 0 d.size d (stF l d) := by
  unfold stF
  split
  · exact insertionSort_perm l 0 _ d (Nat.le_refl _)
  · split
    · rename_i h
      have := insertionSort_perm l 0 20 d (by omega)
      rw [h]; exact this
    · have p1 := insertionSort_perm l 0 20 d (by omega)
      have p2 := insertionSort_perm l 20 d.size (insertionSort l d 0 20) (by rw [p1.1]; omega)
      have hz1 := p1.1
      have hz2 := p2.1
      refine permIn_trans _ _ _ _ _ (permIn_mono _ _ 0 20 0 d.size (Nat.le_refl _) (by omega) (Nat.le_refl _) p1) (permIn_trans _ _ _ _ _ (permIn_mono _ _ 20 d.size 0 d.size (by omega) (Nat.le_refl _) (by omega) p2) ?_)
      exact symF_perm l _ 0 20 _ _ (by omega) (by omega) (by omega)

/-- What is asked of a comparison: a preorder's. -/
structure Pre3 (cf : α → α → Int) : Prop where
  neg : ∀ a b, cf b a = - cf a b
  trans : ∀ a b c, cf a b ≤ 0 → cf b c ≤ 0 → cf a c ≤ 0

variable {cf : α → α → Int}
omit [Inhabited α] in
theorem Pre3.lt_trans (h : Pre3 cf) {a b c : α} (h1 : cf a b < 0) (h2 : cf b c ≤ 0) : cf a c < 0 := by
  rcases Int.lt_or_le (cf a c) 0 with h3 | h3
  · exact h3
  · have h4 := h.neg a c
    have := h.trans b c a h2 (by omega)
    rw [h.neg a b] at this; omega
omit [Inhabited α] in
theorem Pre3.lt_trans' (h : Pre3 cf) {a b c : α} (h1 : cf a b ≤ 0) (h2 : cf b c < 0) : cf a c < 0 := by
  rcases Int.lt_or_le (cf a c) 0 with h3 | h3
  · exact h3
  · have h4 := h.neg a c
    have := h.trans c a b (by omega) h1
    rw [h.neg b c] at this; omega
omit [Inhabited α] in
theorem Pre3.self (h : Pre3 cf) (a : α) : cf a a = 0 := by have := h.neg a a; omega

/-- Less; and of equals the one that came first. -/
def lt2 (cf : α → α → Int) (x y : α × Nat) : Bool := decide (cf x.1 y.1 < 0 ∨ cf x.1 y.1 = 0 ∧ x.2 < y.2)
def lt1 (cf : α → α → Int) (x y : α × Nat) : Bool := decide (cf x.1 y.1 < 0)

omit [Inhabited α] in
theorem lt2_swo (h : Pre3 cf) : SWO (lt2 cf) where
  irrefl x := by unfold lt2; rw [h.self]; simp
  trans x y z h1 h2 := by
    unfold lt2 at *
    simp only [decide_eq_true_eq] at *
    rcases h1 with h1 | ⟨h1, g1⟩
    · exact Or.inl (h.lt_trans h1 (by omega))
    · rcases h2 with h2 | ⟨h2, g2⟩
      · exact Or.inl (h.lt_trans' (by omega) h2)
      · have h3 := h.trans x.1 y.1 z.1 (by omega) (by omega)
        have h4 := h.trans z.1 y.1 x.1 (by rw [h.neg y.1 z.1]; omega) (by rw [h.neg x.1 y.1]; omega)
        rw [h.neg x.1 z.1] at h4
        exact Or.inr ⟨by omega, by omega⟩
  ntrans x y z h1 h2 := by
    unfold lt2 at *
    simp only [decide_eq_false_iff_not] at *
    have a1 : cf y.1 x.1 ≤ 0 := by rw [h.neg x.1 y.1]; omega
    have a2 : cf z.1 y.1 ≤ 0 := by rw [h.neg y.1 z.1]; omega
    have a3 := h.trans _ _ _ a2 a1
    rw [h.neg x.1 z.1] at a3
    intro h3
    rcases h3 with h3 | ⟨h3, g3⟩
    · omega
    · by_cases e1 : cf x.1 y.1 = 0
      · by_cases e2 : cf y.1 z.1 = 0
        · omega
        · have : cf z.1 y.1 < 0 := by rw [h.neg y.1 z.1]; omega
          have := h.lt_trans this a1
          rw [h.neg x.1 z.1] at this; omega
      · have : cf y.1 x.1 < 0 := by rw [h.neg x.1 y.1]; omega
        have := h.lt_trans' a2 this
        rw [h.neg x.1 z.1] at this; omega

omit [Inhabited α] in
theorem lt12 {x y : α × Nat} (h : y.2 < x.2) : lt1 cf x y = lt2 cf x y := by
  unfold lt1 lt2
  rw [decide_eq_decide]
  constructor
  · exact Or.inl
  · rintro (h1 | h1)
    · exact h1
    · omega

theorem stF_congr (d : Array (α × Nat)) (h : ∀ i, i < d.size → (d[i]!).2 = i) : stF (lt1 cf) d = stF (lt2 cf) d := by
  have sep : ∀ a b, b ≤ d.size → insertionSort (lt1 cf) d a b = insertionSort (lt2 cf) d a b := fun a b hb =>
    insOuter_congr a b _ _ d rfl (by omega) hb fun p q h1 h2 h3 h4 => lt12 (by rw [h p (by omega), h q (by omega)]; exact h2)
  unfold stF
  split
  · exact sep 0 _ (Nat.le_refl _)
  · split
    · exact sep 0 20 (by omega)
    · rw [sep 0 20 (by omega)]
      have p1 := insertionSort_perm (lt2 cf) 0 20 d (by omega)
      generalize insertionSort (lt2 cf) d 0 20 = d1 at p1
      have hz1 := p1.1
      have e2 : insertionSort (lt1 cf) d1 20 d.size = insertionSort (lt2 cf) d1 20 d.size :=
        insOuter_congr 20 _ _ _ d1 rfl (by omega) (by omega) fun p q h1 h2 h3 h4 => lt12 (by rw [p1.2.1 p (Or.inr h1), p1.2.1 q (Or.inr (by omega)), h p (by omega), h q (by omega)]; exact h2)
      rw [e2]
      have p2 := insertionSort_perm (lt2 cf) 20 d.size d1 (by omega)
      generalize insertionSort (lt2 cf) d1 20 d.size = d2 at p2
      have hz2 := p2.1
      have a1 : ∀ i, 0 ≤ i → i < 20 → (d1[i]!).2 < 20 := permIn_all d d1 0 20 (fun z => z.2 < 20) (by omega) p1 fun i _ hi => by rw [h i (by omega)]; exact hi
      have a2 : ∀ i, 20 ≤ i → i < d.size → 20 ≤ (d2[i]!).2 := permIn_all d1 d2 20 d.size (fun z => 20 ≤ z.2) (by omega) p2 fun i k1 k2 => by rw [p1.2.1 i (Or.inr k1), h i k2]; exact k1
      refine symF_congr _ 0 20 _ d2 (by omega) (by omega) (by omega) fun i j _ h2 h3 h4 => lt12 ?_
      have b1 := a1 i (Nat.zero_le _) h2
      have b2 := a2 j h3 h4
      rw [← p2.2.1 i (Or.inl h2)] at b1
      omega

theorem stF_sorted {l : α → α → Bool} (hS : SWO l) (d : Array α) : SortedIn l 0 d.size (stF l d) := by
  unfold stF
  split
  · exact (insertionSort_holds hS d 0 _ (Nat.zero_le _) (Nat.le_refl _)).2
  · split
    · rename_i h
      rw [h]; exact (insertionSort_holds hS d 0 20 (by omega) (by omega)).2
    · obtain ⟨p1, s1⟩ := insertionSort_holds hS d 0 20 (by omega) (by omega)
      generalize insertionSort l d 0 20 = d1 at p1 s1
      have hz1 := p1.1
      obtain ⟨p2, s2⟩ := insertionSort_holds hS d1 20 d.size (by omega) (by omega)
      generalize insertionSort l d1 20 d.size = d2 at p2 s2
      have hz2 := p2.1
      refine symF_sorted hS _ 0 20 _ d2 (by omega) (by omega) (by omega) (by omega) (fun i j h1 h2 h3 => ?_) s2
      rw [p2.2.1 i (Or.inl (by omega)), p2.2.1 j (Or.inl h3)]
      exact s1 i j h1 h2 h3

/-- out is l, sorted, equals in the order in which they came. -/
def StableOf (cf : α → α → Int) (l out : List α) : Prop := ∃ L : List (α × Nat), L.map (·.1) = out ∧ L.Perm l.zipIdx ∧ L.Pairwise fun x y => lt2 cf x y = true

omit [Inhabited α] in
theorem strict_unique {R : α → α → Prop} (hR : ∀ a b, R a b → ¬ R b a) : ∀ {l m : List α}, l.Pairwise R → m.Pairwise R → (∀ x, x ∈ l ↔ x ∈ m) → l = m
  | [], [], _, _, _ => rfl
  | [], b :: m, _, _, h => by have := (h b).2 (by simp); simp at this
  | a :: l, [], _, _, h => by have := (h a).1 (by simp); simp at this
  | a :: l, b :: m, hl, hm, h => by
    rw [List.pairwise_cons] at hl hm
    have hab : a = b := by
      rcases List.mem_cons.1 ((h a).1 (by simp)) with e | ha
      · exact e
      · rcases List.mem_cons.1 ((h b).2 (by simp)) with e | hb
        · exact e.symm
        · exact absurd (hl.1 b hb) (hR _ _ (hm.1 a ha))
    subst hab
    congr 1
    refine strict_unique hR hl.2 hm.2 fun x => ⟨fun hx => ?_, fun hx => ?_⟩
    · rcases List.mem_cons.1 ((h x).1 (List.mem_cons_of_mem _ hx)) with e | h'
      · subst e; exact absurd (hl.1 _ hx) (fun h => hR _ _ h h)
      · exact h'
    · rcases List.mem_cons.1 ((h x).2 (List.mem_cons_of_mem _ hx)) with e | h'
      · subst e; exact absurd (hm.1 _ hx) (fun h => hR _ _ h h)
      · exact h'

omit [Inhabited α] in
theorem StableOf.unique (h : Pre3 cf) {l o1 o2 : List α} (h1 : StableOf cf l o1) (h2 : StableOf cf l o2) : o1 = o2 := by
  obtain ⟨L1, rfl, p1, s1⟩ := h1
  obtain ⟨L2, rfl, p2, s2⟩ := h2
  have hS := lt2_swo h
  rw [strict_unique (R := fun x y => lt2 cf x y = true) (fun a b k1 k2 => by rw [hS.asymmA k1] at k2; cases k2) s1 s2 fun x => by rw [p1.mem_iff, p2.mem_iff]]

omit [Inhabited α] in
theorem StableOf.perm {l out : List α} (h : StableOf cf l out) : out.Perm l := by
  obtain ⟨L, rfl, p, _⟩ := h
  have := p.map (·.1)
  rwa [List.zipIdx_map_fst] at this

omit [Inhabited α] in
theorem StableOf.sorted {l out : List α} (h : StableOf cf l out) : out.Pairwise fun x y => cf x y ≤ 0 := by
  obtain ⟨L, rfl, _, s⟩ := h
  rw [List.pairwise_map]
  refine s.imp fun {x y} k => ?_
  unfold lt2 at k
  simp only [decide_eq_true_eq] at k
  omega

/-- What the library's stable sort leaves. -/
theorem stF_stable (h : Pre3 cf) (l : List α) : StableOf cf l ((stF (lt1 cf) l.zipIdx.toArray).toList.map (·.1)) := by
  have hidx : ∀ i, i < l.zipIdx.toArray.size → (l.zipIdx.toArray[i]!).2 = i := fun i hi => by
    rw [getElem!_pos _ i hi]; simp
  rw [stF_congr _ hidx]
  have hS := lt2_swo h
  have hp := stF_perm (lt2 cf) l.zipIdx.toArray
  have hs := stF_sorted hS l.zipIdx.toArray
  generalize stF (lt2 cf) l.zipIdx.toArray = d at hp hs
  have hz := hp.1
  have hperm : d.toList.Perm l.zipIdx := by
    have := hp.2.2
    rw [show d.extract 0 l.zipIdx.toArray.size = d by rw [← hz]; exact Array.extract_size, Array.extract_size] at this
    simpa using this
  refine ⟨d.toList, rfl, hperm, ?_⟩
  have hnd : (l.zipIdx.map (·.2)).Nodup := by rw [List.zipIdx_map_snd]; exact List.nodup_range'
  have hnd2 : (d.toList.map (·.2)).Nodup := (hperm.map (·.2)).nodup_iff.2 hnd
  rw [List.pairwise_iff_getElem]
  intro i j hi hj hij
  have k := hs i j (Nat.zero_le _) hij (by rw [← hz]; simpa using hj)
  rw [getElem!_pos d i (by simpa using hi), getElem!_pos d j (by simpa using hj)] at k
  rw [List.nodup_iff_pairwise_ne, List.pairwise_iff_getElem] at hnd2
  have hne := hnd2 i j (by simpa using hi) (by simpa using hj) hij
  simp only [List.getElem_map, Array.getElem_toList] at hne
  simp only [Array.getElem_toList]
  unfold lt2 at k ⊢
  simp only [decide_eq_false_iff_not, decide_eq_true_eq] at k ⊢
  have hneg := h.neg d[i].1 d[j].1
  omega

omit [Inhabited α] in
theorem StableOf.nil : StableOf cf [] [] := ⟨[], rfl, List.Perm.refl _, List.Pairwise.nil⟩
omit [Inhabited α] in
/-- An element more, put behind the last one that it is not less than. -/
theorem StableOf.put (h : Pre3 cf) {l out : List α} {x : α} {k : Nat} (hs : StableOf cf l out) (hk : k ≤ out.length) (hhi : ∀ i y, k ≤ i → out[i]? = some y → cf x y < 0) (hlo : ∀ y, 0 < k → out[k - 1]? = some y → ¬ cf x y < 0) :
    StableOf cf (l ++ [x]) ((out.take k ++ [x]) ++ out.drop k) := by
  obtain ⟨L, rfl, p, s⟩ := hs
  have hS := lt2_swo h
  have hlen : L.length = l.length := by rw [p.length_eq]; simp
  rw [List.length_map] at hk
  refine ⟨(L.take k ++ [(x, l.length)]) ++ L.drop k, by simp [List.map_take, List.map_drop], ?_, ?_⟩
  · rw [List.zipIdx_append]
    simp only [List.zipIdx_cons, List.zipIdx_nil, Nat.zero_add]
    refine List.Perm.trans ?_ (p.append_right _)
    rw [List.append_assoc]
    conv => rhs; rw [← List.take_append_drop k L, List.append_assoc]
    exact List.Perm.append_left _ List.perm_append_comm
  · have hidx : ∀ z ∈ L, z.2 < l.length := fun z hz => by
      have := p.mem_iff.1 hz
      obtain ⟨a, i⟩ := z
      have := List.mem_zipIdx' this
      exact this.1
    have s2 := s
    rw [← List.take_append_drop k L, List.pairwise_append] at s2
    obtain ⟨t1, t2, t3⟩ := s2
    rw [List.append_assoc, List.pairwise_append]
    have hD : ∀ z ∈ L.drop k, lt2 cf (x, l.length) z = true := fun z hz => by
      obtain ⟨i, hi, rfl⟩ := List.mem_iff_getElem.1 hz
      rw [List.length_drop] at hi
      unfold lt2
      simp only [decide_eq_true_eq]
      refine Or.inl (hhi (k + i) _ (by omega) ?_)
      rw [List.getElem?_map, List.getElem?_eq_getElem (by omega), List.getElem_drop]
      rfl
    have hT : ∀ z ∈ L.take k, lt2 cf z (x, l.length) = true := fun z hz => by
      obtain ⟨i, hi, rfl⟩ := List.mem_iff_getElem.1 hz
      have hi0 := hi
      rw [List.length_take] at hi
      rw [List.getElem_take]
      have hlast : lt2 cf (L[k - 1]'(by omega)) (x, l.length) = true := by
        have := hlo (L[k - 1]'(by omega)).1 (by omega) (by rw [List.getElem?_map, List.getElem?_eq_getElem (by omega)]; rfl)
        unfold lt2
        simp only [decide_eq_true_eq]
        have h1 := h.neg x (L[k - 1]'(by omega)).1
        have h2 := hidx (L[k - 1]'(by omega)) (List.getElem_mem _)
        omega
      by_cases e : i = k - 1
      · subst e; exact hlast
      · exact hS.trans _ _ _ (List.pairwise_iff_getElem.1 s i (k - 1) (by omega) (by omega) (by omega)) hlast
    refine ⟨t1, ?_, ?_⟩
    · rw [List.cons_append, List.nil_append, List.pairwise_cons]
      exact ⟨hD, t2⟩
    · intro a ha b hb
      rcases List.mem_cons.1 (by simpa using hb) with e | hb
      · subst e; exact hT a ha
      · exact t3 a ha b hb
end
end Go.Proofs.YtnhfbignnnicnaaDoor
