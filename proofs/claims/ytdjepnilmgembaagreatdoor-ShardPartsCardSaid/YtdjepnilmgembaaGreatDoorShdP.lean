/-
  Shards of tests: the order in which tests are distributed, the shard that is filled next, how much a shard can take (plain).
  Shards of tests: the next test of the reference, the heap of the program (plain).
  Shards of tests: the heap behind a test; the errors of a split; times and loads (plain).
  Shards of tests: which child comes up (plain).
  Shards of tests: what a split returns, what the laws ask of it (plain).
  Shards of tests: the document's example (plain).
  The reading of timings.
-/
import Derived.Test.YtdjepnilmgembaaGreatDoorHisP
import Derived.Test.YtdjepnilmgembaaGreatDoorNames4

namespace Go.Proofs.YtdjepnilmgembaaGreatDoor
open Go.RowKit

/-! The order. -/
def befT (t : Str → Int) (a b : Str) : Prop := t b < t a ∨ (t a = t b ∧ cmpS a b < 0)
theorem bef_irr (t : Str → Int) (a : Str) : ¬ befT t a a := by
  rintro (h | ⟨_, h⟩)
  · omega
  · exact absurd rfl (cmp_ne h)
theorem bef_trans {t : Str → Int} {a b c : Str} (h1 : befT t a b) (h2 : befT t b c) : befT t a c := by
  rcases h1 with h1 | ⟨e1, h1⟩ <;> rcases h2 with h2 | ⟨e2, h2⟩
  · exact .inl (by omega)
  · exact .inl (by omega)
  · exact .inl (by omega)
  · exact .inr ⟨by omega, ord_str.trans _ _ _ h1 h2⟩
theorem bef_or {t : Str → Int} {a b : Str} (h : a ≠ b) : befT t a b ∨ befT t b a := by
  rcases Int.lt_trichotomy (t a) (t b) with h1 | h1 | h1
  · exact .inr (.inl h1)
  · have h2 : cmpS a b ≠ 0 := fun e => h ((ord_str.zero _ _).1 e)
    have h3 := ord_str.neg a b
    rcases Int.lt_trichotomy (cmpS a b) 0 with h4 | h4 | h4
    · exact .inl (.inr ⟨h1, h4⟩)
    · exact absurd h4 h2
    · exact .inr (.inr ⟨h1.symm, by omega⟩)
  · exact .inl (.inl h1)
def OrdT (t : Str → Int) (l : List Str) : Prop := l.Pairwise (befT t)
theorem ord_one {t : Str → Int} : ∀ {l m : List Str}, l.Perm m → OrdT t l → OrdT t m → l = m := by
  intro l
  induction l with
  | nil => intro m hp _ _; exact hp.nil_eq
  | cons a l ih =>
    intro m hp h1 h2
    cases m with
    | nil => exact absurd hp.length_eq (by simp)
    | cons b m =>
      have h3 := List.pairwise_cons.1 h1
      have h4 := List.pairwise_cons.1 h2
      have e : a = b := by
        rcases List.mem_cons.1 (hp.mem_iff.1 (show a ∈ a :: l by simp)) with e | ha
        · exact e
        · rcases List.mem_cons.1 (hp.mem_iff.2 (show b ∈ b :: m by simp)) with e | hb
          · exact e.symm
          · exact absurd (bef_trans (h4.1 a ha) (h3.1 b hb)) (bef_irr t b)
      subst e
      rw [ih ((List.perm_cons a).1 hp) h3.2 h4.2]
/-! The shard that is filled next. -/
abbrev Bin : Type := List Str × Int
def leastB (bins : List Bin) : Nat := bins.findIdx fun x => bins.all fun y => decide (x.2 ≤ y.2)
theorem min_some : ∀ {l : List Bin}, l ≠ [] → ∃ x ∈ l, ∀ y ∈ l, x.2 ≤ y.2
  | [x], _ => ⟨x, by simp, fun y hy => by
    obtain rfl : y = x := (by simpa using hy)
    exact Int.le_refl _⟩
  | x :: z :: l, _ => by
    obtain ⟨m, hm, h⟩ := min_some (l := z :: l) (by simp)
    by_cases hx : x.2 ≤ m.2
    · refine ⟨x, by simp, fun y hy => ?_⟩
      rcases List.mem_cons.1 hy with rfl | hy
      · exact Int.le_refl _
      · have := h y hy; omega
    · refine ⟨m, List.mem_cons_of_mem _ hm, fun y hy => ?_⟩
      rcases List.mem_cons.1 hy with rfl | hy
      · omega
      · exact h y hy
theorem least_spec {bins : List Bin} (h : bins ≠ []) : ∃ b, bins[leastB bins]? = some b ∧ (∀ y ∈ bins, b.2 ≤ y.2) ∧ ∀ j y, j < leastB bins → bins[j]? = some y → b.2 < y.2 := by
  obtain ⟨x, hx, hmin⟩ := min_some h
  have hlt : leastB bins < bins.length := List.findIdx_lt_length.2 ⟨x, hx, by simpa using hmin⟩
  obtain ⟨b, hb⟩ := get_some hlt
  have hbm : ∀ y ∈ bins, b.2 ≤ y.2 := by
    have h9 : (bins.all fun y => decide ((bins[leastB bins]'hlt).2 ≤ y.2)) = true := List.findIdx_getElem (w := hlt)
    obtain ⟨_, e⟩ := List.getElem?_eq_some_iff.1 hb
    rw [e] at h9
    simpa using h9
  refine ⟨b, hb, hbm, fun j y hj hy => ?_⟩
  have hn := List.not_of_lt_findIdx hj
  obtain ⟨hjl, e⟩ := List.getElem?_eq_some_iff.1 hy
  rw [e] at hn
  have h2 : ¬ ∀ z ∈ bins, y.2 ≤ z.2 := by simpa using hn
  have h3 := hbm y (List.mem_of_getElem? hy)
  rcases Int.lt_or_eq_of_le h3 with h4 | h4
  · exact h4
  · exact absurd (fun z hz => by have := hbm z hz; omega) h2
/-- It is the only one of which that holds. -/
theorem least_at {bins : List Bin} {k : Nat} {b : Bin} (hb : bins[k]? = some b) (h1 : ∀ y ∈ bins, b.2 ≤ y.2) (h2 : ∀ j y, j < k → bins[j]? = some y → b.2 < y.2) : leastB bins = k := by
  have hne : bins ≠ [] := fun e => by rw [e] at hb; simp at hb
  obtain ⟨c, hc, h3, h4⟩ := least_spec hne
  have hbm := List.mem_of_getElem? hb
  have hcm := List.mem_of_getElem? hc
  rcases Nat.lt_trichotomy (leastB bins) k with h | h | h
  · have := h2 _ c h hc
    have := h3 b hbm
    omega
  · exact h
  · have := h4 k b h hb
    have := h1 c hcm
    omega
def stepB (t : Str → Int) (bins : List Bin) (s : Str) : List Bin := bins.set (leastB bins) ((bins[leastB bins]!).1 ++ [s], (bins[leastB bins]!).2 + t s)
def fillB (t : Str → Int) (n : Nat) (l : List Str) : List Bin := l.foldl (stepB t) (List.replicate n ([], 0))
theorem fill_nil (t : Str → Int) (n : Nat) : fillB t n [] = List.replicate n ([], 0) := rfl
theorem fill_snoc (t : Str → Int) (n : Nat) (l : List Str) (s : Str) : fillB t n (l ++ [s]) = stepB t (fillB t n l) s := by unfold fillB; rw [List.foldl_append]; rfl
theorem fill_len (t : Str → Int) (n : Nat) (l : List Str) : (fillB t n l).length = n := by
  have : ∀ (l : List Str) (b : List Bin), (l.foldl (stepB t) b).length = b.length := fun l => by
    induction l with
    | nil => exact fun _ => rfl
    | cons s l ih => exact fun b => by rw [List.foldl_cons, ih]; unfold stepB; rw [List.length_set]
  unfold fillB
  rw [this, List.length_replicate]
/-- What is in the shards: the tests, each once; a shard's load is its tests'. -/
def sumT (t : Str → Int) (l : List Str) : Int := (l.map t).sum
theorem sum_snoc (t : Str → Int) (l : List Str) (s : Str) : sumT t (l ++ [s]) = sumT t l + t s := by unfold sumT; simp
theorem sum_perm {t : Str → Int} {l m : List Str} (h : l.Perm m) : sumT t l = sumT t m := by
  unfold sumT
  induction h with
  | nil => rfl
  | cons x _ ih => simp only [List.map_cons, List.sum_cons, ih]
  | swap x y l => simp only [List.map_cons, List.sum_cons]; omega
  | trans _ _ a b => exact a.trans b
theorem sum_pos {t : Str → Int} (h : ∀ s, 0 ≤ t s) (l : List Str) : 0 ≤ sumT t l := by
  unfold sumT
  induction l with
  | nil => simp
  | cons a l ih => have := h a; simp only [List.map_cons, List.sum_cons]; omega
structure Filled (t : Str → Int) (n : Nat) (l : List Str) (bins : List Bin) : Prop where
  len : bins.length = n
  all : (bins.flatMap (·.1)).Perm l
  load : ∀ b ∈ bins, b.2 = sumT t b.1
  total : (bins.map (·.2)).sum = sumT t l
  most : ∀ b ∈ bins, b.2 = 0 ∨ ∃ s ∈ l, (b.2 - t s) * n ≤ sumT t l
theorem set_perm {bins : List Bin} {k : Nat} {b : Bin} (hb : bins[k]? = some b) (s : Str) (x : Int) : ((bins.set k (b.1 ++ [s], x)).flatMap (·.1)).Perm (bins.flatMap (·.1) ++ [s]) := by
  obtain ⟨hk, e⟩ := List.getElem?_eq_some_iff.1 hb
  have hl : bins = bins.take k ++ b :: bins.drop (k + 1) := by rw [← e, List.getElem_cons_drop hk, List.take_append_drop]
  rw [List.set_eq_take_append_cons_drop, if_pos hk]
  conv => rhs; rw [hl]
  simp only [List.flatMap_append, List.flatMap_cons, List.append_assoc]
  refine List.Perm.append_left _ (List.Perm.append_left _ ?_)
  exact List.perm_append_comm
theorem set_sum {bins : List Bin} {k : Nat} {b : Bin} (hb : bins[k]? = some b) (l : List Str) (d : Int) : ((bins.set k (l, b.2 + d)).map (·.2)).sum = (bins.map (·.2)).sum + d := by
  obtain ⟨hk, e⟩ := List.getElem?_eq_some_iff.1 hb
  have hl : bins = bins.take k ++ b :: bins.drop (k + 1) := by rw [← e, List.getElem_cons_drop hk, List.take_append_drop]
  rw [List.set_eq_take_append_cons_drop, if_pos hk]
  conv => rhs; rw [hl]
  simp only [List.map_append, List.map_cons, List.sum_append, List.sum_cons]
  omega
theorem min_avg : ∀ (l : List Bin) (m : Int), (∀ y ∈ l, m ≤ y.2) → m * l.length ≤ (l.map (·.2)).sum
  | [], m, _ => by simp
  | x :: l, m, h => by
    have ih := min_avg l m fun y hy => h y (List.mem_cons_of_mem _ hy)
    have hx := h x (by simp)
    simp only [List.length_cons, List.map_cons, List.sum_cons]
    have e : m * ((l.length + 1 : Nat) : Int) = m * (l.length : Int) + m := by
      rw [Int.natCast_add, Int.mul_add]; simp
    omega
theorem filled {t : Str → Int} (ht : ∀ s, 0 ≤ t s) {n : Nat} (hn : 0 < n) (l : List Str) : Filled t n l (fillB t n l) := by
  suffices h : ∀ r : List Str, Filled t n r.reverse (fillB t n r.reverse) by
    have := h l.reverse
    rwa [List.reverse_reverse] at this
  intro r
  induction r with
  | nil =>
    rw [List.reverse_nil, fill_nil]
    refine ⟨List.length_replicate, ?_, fun b hb => ?_, ?_, fun b hb => ?_⟩
    · rw [List.flatMap_replicate]; simp
    · obtain ⟨_, rfl⟩ := List.mem_replicate.1 hb; rfl
    · simp [sumT]
    · obtain ⟨_, rfl⟩ := List.mem_replicate.1 hb; exact .inl rfl
  | cons s r ih =>
    rw [List.reverse_cons, fill_snoc]
    have hne : fillB t n r.reverse ≠ [] := fun e => by have := ih.len; rw [e] at this; simp at this; omega
    obtain ⟨b, hb, h1, h2⟩ := least_spec hne
    have hbm := List.mem_of_getElem? hb
    have hs : 0 ≤ t s := ht s
    unfold stepB
    rw [get_bang hb]
    have hmin := min_avg _ _ h1
    rw [ih.len, ih.total] at hmin
    refine ⟨by rw [List.length_set]; exact ih.len, (set_perm hb s _).trans (List.Perm.append_right _ ih.all), fun c hc => ?_, ?_, fun c hc => ?_⟩
    · rcases List.mem_or_eq_of_mem_set hc with h | rfl
      · exact ih.load c h
      · show b.2 + t s = sumT t (b.1 ++ [s])
        rw [sum_snoc, ih.load b hbm]
    · rw [set_sum hb, ih.total, sum_snoc]
    · rw [sum_snoc]
      rcases List.mem_or_eq_of_mem_set hc with h | rfl
      · rcases ih.most c h with e | ⟨q, hq, hle⟩
        · exact .inl e
        · exact .inr ⟨q, by simp [hq], by omega⟩
      · refine .inr ⟨s, by simp, ?_⟩
        show (b.2 + t s - t s) * (n : Int) ≤ _
        rw [Int.add_sub_cancel]
        omega
/-- No shard takes longer than the average and the longest test together. -/
theorem filled_most {t : Str → Int} {n : Nat} (hn : 0 < n) {l : List Str} {bins : List Bin} (h : Filled t n l bins) {M : Int} (hM : ∀ s ∈ l, t s ≤ M) (h0 : 0 ≤ M) (hs : 0 ≤ sumT t l) {b : Bin} (hb : b ∈ bins) : b.2 ≤ sumT t l / (n : Int) + M := by
  rcases h.most b hb with e | ⟨s, hs1, hle⟩
  · have := Int.ediv_nonneg hs (show (0 : Int) ≤ n by omega)
    omega
  · have := (Int.le_ediv_iff_mul_le (show (0 : Int) < n by omega)).2 hle
    have := hM s hs1
    omega
/-- Each test is in one shard. -/
theorem filled_once {t : Str → Int} {n : Nat} {l : List Str} {bins : List Bin} (h : Filled t n l bins) (hd : l.Nodup) {s : Str} (hs : s ∈ l) : bins.countP (fun b => hasS b.1 s) = 1 := by
  have h1 : (bins.flatMap (·.1)).Nodup := h.all.nodup_iff.2 hd
  have h2 : s ∈ bins.flatMap (·.1) := h.all.mem_iff.2 hs
  clear h
  induction bins with
  | nil => simp at h2
  | cons b bins ih =>
    rw [List.flatMap_cons, List.nodup_append] at h1
    rw [List.flatMap_cons] at h2
    rw [List.countP_cons]
    by_cases hb : s ∈ b.1
    · rw [if_pos (hasS_iff.2 hb)]
      have : bins.countP (fun b => hasS b.1 s) = 0 := by
        rw [List.countP_eq_zero]
        intro c hc h3
        exact h1.2.2 s hb s (List.mem_flatMap.2 ⟨c, hc, hasS_iff.1 h3⟩) rfl
      omega
    · rw [if_neg (fun h3 => hb (hasS_iff.1 h3))]
      rcases List.mem_append.1 h2 with h3 | h3
      · exact absurd h3 hb
      · rw [ih h1.2.1 h3]
end Go.Proofs.YtdjepnilmgembaaGreatDoor

namespace Go.Proofs.YtdjepnilmgembaaGreatDoor
open Go.RowKit

def befB (t : Str → Int) (a b : Str) : Bool := decide (t b < t a) || (decide (t a = t b) && decide (cmpS a b < 0))
theorem befB_iff {t : Str → Int} {a b : Str} : befB t a b = true ↔ befT t a b := by unfold befB befT; simp
def ordL (t : Str → Int) (l : List Str) : List Str := l.mergeSort fun a b => !befB t b a
theorem ord_perm (t : Str → Int) (l : List Str) : (ordL t l).Perm l := List.mergeSort_perm _ _
theorem ord_ok (t : Str → Int) {l : List Str} (hd : l.Nodup) : OrdT t (ordL t l) := by
  have h := List.pairwise_mergeSort (le := fun a b => !befB t b a) (fun a b c h1 h2 => by
    simp only [Bool.not_eq_true', ← Bool.not_eq_true, befB_iff] at h1 h2 ⊢
    intro h3
    by_cases e1 : a = b
    · subst e1; exact h2 h3
    by_cases e2 : b = c
    · subst e2; exact h1 h3
    have g1 : befT t a b := (bef_or e1).resolve_right h1
    have g2 : befT t b c := (bef_or e2).resolve_right h2
    exact bef_irr t a (bef_trans (bef_trans g1 g2) h3)) (fun a b => by
    rw [Bool.or_eq_true, Bool.not_eq_true', Bool.not_eq_true', ← Bool.not_eq_true, ← Bool.not_eq_true, befB_iff, befB_iff]
    by_cases e : a = b
    · subst e; exact .inl (bef_irr t a)
    · rcases bef_or (t := t) e with g | g
      · exact .inl fun h => bef_irr t a (bef_trans g h)
      · exact .inr fun h => bef_irr t a (bef_trans h g)) l
  have hn : (ordL t l).Nodup := (ord_perm t l).nodup_iff.2 hd
  have h2 : (ordL t l).Pairwise fun a b => (!befB t b a) = true := h
  refine (h2.and hn).imp fun {a b} ⟨h3, h4⟩ => ?_
  rw [Bool.not_eq_true', ← Bool.not_eq_true, befB_iff] at h3
  exact (bef_or h4).resolve_right h3
/-- The test that is distributed next comes first in the order. -/
theorem next_cons {t : Str → Int} {l : List Str} (hd : l.Nodup) {i : Nat} {x : Str} (hx : l[i]? = some x) (hb : ∀ j y, j ≠ i → l[j]? = some y → befT t x y) : ordL t l = x :: ordL t (l.eraseIdx i) := by
  obtain ⟨hi, e⟩ := List.getElem?_eq_some_iff.1 hx
  have hl : l = l.take i ++ x :: l.drop (i + 1) := by rw [← e, List.getElem_cons_drop hi, List.take_append_drop]
  have hr : l.eraseIdx i = l.take i ++ l.drop (i + 1) := List.eraseIdx_eq_take_drop_succ l i
  have hp : l.Perm (x :: l.eraseIdx i) := by
    rw [hr]
    conv => lhs; rw [hl]
    exact List.perm_middle
  have hd2 : (l.eraseIdx i).Nodup := (List.nodup_cons.1 (hp.nodup_iff.1 hd)).2
  refine ord_one (t := t) ?_ (ord_ok t hd) (List.pairwise_cons.2 ⟨fun y hy => ?_, ord_ok t hd2⟩)
  · exact (ord_perm t l).trans (hp.trans (List.Perm.cons x (ord_perm t _).symm))
  · have hy2 := (ord_perm t (l.eraseIdx i)).mem_iff.1 hy
    have hne : y ≠ x := fun h => (List.nodup_cons.1 (hp.nodup_iff.1 hd)).1 (h ▸ hy2)
    have hyl : y ∈ l := hp.mem_iff.2 (List.mem_cons_of_mem _ hy2)
    obtain ⟨j, hj⟩ := List.getElem?_of_mem hyl
    exact hb j y (fun h => by subst h; rw [hx] at hj; exact hne (by simpa using hj.symm)) hj

/-! The heap. -/
structure HB where
  no : Nat
  load : Int
  ts : List Str
deriving Inhabited
def befH (a b : HB) : Prop := a.load < b.load ∨ (a.load = b.load ∧ a.no < b.no)
theorem befH_not {a b c : HB} (h1 : ¬ befH a b) (h2 : ¬ befH b c) : ¬ befH a c := by
  unfold befH at *
  omega
theorem befH_irr (a : HB) : ¬ befH a a := by unfold befH; omega
theorem befH_as {a b : HB} (h : befH a b) : ¬ befH b a := by unfold befH at *; omega
def child (i k : Nat) : Prop := k = 2 * i + 1 ∨ k = 2 * i + 2
def Heap (l : List HB) : Prop := ∀ i k x y, child i k → l[i]? = some x → l[k]? = some y → ¬ befH y x
/-- A heap but for what stands at a place. -/
structure HeapEx (l : List HB) (p : Nat) : Prop where
  rest : ∀ i k x y, i ≠ p → child i k → l[i]? = some x → l[k]? = some y → ¬ befH y x
  over : ∀ i k x y, child i p → child p k → l[i]? = some x → l[k]? = some y → ¬ befH y x
theorem heap_root {l : List HB} (h : Heap l) {x : HB} (hx : l[0]? = some x) : ∀ (i : Nat) (y : HB), l[i]? = some y → ¬ befH y x := by
  intro i
  induction i using Nat.strongRecOn with
  | _ i ih =>
    intro y hy
    rcases Nat.eq_zero_or_pos i with e | hp
    · subst e
      rw [hx] at hy
      obtain rfl : x = y := by simpa using hy
      exact befH_irr x
    · have hil := (List.getElem?_eq_some_iff.1 hy).1
      obtain ⟨z, hz⟩ := get_some (show (i - 1) / 2 < l.length by omega)
      exact befH_not (h ((i - 1) / 2) i z y (by unfold child; omega) hz hy) (ih _ (by omega) z hz)
theorem heap_start {l : List HB} (h : Heap l) (x : HB) : HeapEx (l.set 0 x) 0 := by
  refine ⟨fun i k a b hi hc ha hb => ?_, fun i k a b hc _ _ _ => by unfold child at hc; omega⟩
  rw [List.getElem?_set_ne (by omega)] at ha
  rw [List.getElem?_set_ne (by unfold child at hc; omega)] at hb
  exact h i k a b hc ha hb
theorem heap_done {l : List HB} {p : Nat} (h : HeapEx l p) (hn : ∀ k x y, child p k → l[p]? = some x → l[k]? = some y → ¬ befH y x) : Heap l := fun i k x y hc hx hy => by
  by_cases e : i = p
  · subst e; exact hn k x y hc hx hy
  · exact h.rest i k x y e hc hx hy
def swapL (l : List HB) (p q : Nat) : List HB := (l.set p l[q]!).set q l[p]!
theorem swap_at {l : List HB} {p q : Nat} {a b : HB} (hp : l[p]? = some a) (hq : l[q]? = some b) (hpq : p ≠ q) : (swapL l p q)[p]? = some b ∧ (swapL l p q)[q]? = some a ∧ ∀ i, i ≠ p → i ≠ q → (swapL l p q)[i]? = l[i]? := by
  have hpl := (List.getElem?_eq_some_iff.1 hp).1
  have hql := (List.getElem?_eq_some_iff.1 hq).1
  unfold swapL
  rw [get_bang hp, get_bang hq]
  refine ⟨?_, ?_, fun i h1 h2 => ?_⟩
  · rw [List.getElem?_set_ne (by omega), List.getElem?_set_self hpl]
  · rw [List.getElem?_set_self (by rw [List.length_set]; exact hql)]
  · rw [List.getElem?_set_ne (by omega), List.getElem?_set_ne (by omega)]
/-- One step down: the least of the children comes up. -/
theorem heap_step {l : List HB} {p q : Nat} (h : HeapEx l p) (hc : child p q) {a b : HB} (ha : l[p]? = some a) (hb : l[q]? = some b) (hlt : befH b a) (hmin : ∀ k y, child p k → l[k]? = some y → ¬ befH y b) : HeapEx (swapL l p q) q := by
  have hpq : p ≠ q := by unfold child at hc; omega
  obtain ⟨s1, s2, s3⟩ := swap_at ha hb hpq
  have hpq2 : p < q := by unfold child at hc; omega
  constructor
  · intro i k x y hi hck hx hy
    by_cases e : i = p
    · subst e
      rw [s1] at hx
      obtain rfl : b = x := by simpa using hx
      by_cases e2 : k = q
      · subst e2
        rw [s2] at hy
        obtain rfl : a = y := by simpa using hy
        exact befH_as hlt
      · rw [s3 k (by unfold child at hck; omega) e2] at hy
        exact hmin k y hck hy
    · rw [s3 i e hi] at hx
      by_cases e2 : k = p
      · subst e2
        rw [s1] at hy
        obtain rfl : b = y := by simpa using hy
        exact h.over i q x b hck hc hx hb
      · by_cases e3 : k = q
        · subst e3
          unfold child at hc hck
          omega
        · rw [s3 k e2 e3] at hy
          exact h.rest i k x y e hck hx hy
  · intro i k x y hc1 hc2 hx hy
    have ei : i = p := by unfold child at hc hc1; omega
    subst ei
    rw [s1] at hx
    obtain rfl : b = x := by simpa using hx
    rw [s3 k (by unfold child at hc2 hc; omega) (by unfold child at hc2; omega)] at hy
    exact h.rest q k b y (by omega) hc2 hb hy
theorem swap_perm {l : List HB} {p q : Nat} {a b : HB} (ha : l[p]? = some a) (hb : l[q]? = some b) (hpq : p < q) : (swapL l p q).Perm l := by
  obtain ⟨hp, e1⟩ := List.getElem?_eq_some_iff.1 ha
  obtain ⟨hq, e2⟩ := List.getElem?_eq_some_iff.1 hb
  have hl : l = l.take p ++ a :: l.drop (p + 1) := by rw [← e1, List.getElem_cons_drop hp, List.take_append_drop]
  have hq2 : (l.drop (p + 1))[q - (p + 1)]? = some b := by rw [List.getElem?_drop, show p + 1 + (q - (p + 1)) = q by omega]; exact hb
  obtain ⟨hq3, e3⟩ := List.getElem?_eq_some_iff.1 hq2
  obtain ⟨R, hR⟩ : ∃ R, l.drop (p + 1) = R := ⟨_, rfl⟩
  have hRs : R = R.take (q - (p + 1)) ++ b :: R.drop (q - (p + 1) + 1) := by
    subst hR
    rw [← e3, List.getElem_cons_drop hq3, List.take_append_drop]
  have hs : swapL l p q = l.take p ++ b :: R.set (q - (p + 1)) a := by
    unfold swapL
    rw [get_bang ha, get_bang hb, List.set_eq_take_append_cons_drop (l := l), if_pos hp, hR, List.set_append_right _ _ (by rw [List.length_take]; omega), List.length_take, Nat.min_eq_left (by omega)]
    congr 1
    rw [show q - p = (q - (p + 1)) + 1 by omega, List.set_cons_succ]
  rw [hs]
  have hRset : R.set (q - (p + 1)) a = R.take (q - (p + 1)) ++ a :: R.drop (q - (p + 1) + 1) := by
    rw [List.set_eq_take_append_cons_drop, if_pos (by rw [← hR]; exact hq3)]
  rw [hRset]
  conv => rhs; rw [hl, hR, hRs]
  refine List.Perm.append_left _ ?_
  refine (List.Perm.cons b List.perm_middle).trans ?_
  refine (List.Perm.swap a b _).trans ?_
  exact List.Perm.cons a List.perm_middle.symm
theorem len_le : ∀ (n : Nat) (l : List Nat), l.Nodup → (∀ x ∈ l, x < n) → l.length ≤ n
  | 0, l, _, h => by
    cases l with
    | nil => exact Nat.le_refl _
    | cons x l => exact absurd (h x (by simp)) (by omega)
  | n + 1, l, hd, h => by
    by_cases hn : n ∈ l
    · have h1 := len_le n (l.erase n) (hd.erase n) fun x hx => by
        have h2 := h x (List.mem_of_mem_erase hx)
        have h3 : x ≠ n := fun e => by subst e; exact (List.Nodup.not_mem_erase hd) hx
        omega
      rw [List.length_erase_of_mem hn] at h1
      omega
    · have h1 := len_le n l hd fun x hx => by
        have h2 := h x hx
        have h3 : x ≠ n := fun e => hn (e ▸ hx)
        omega
      omega
/-- Numbers below the length of their list, each once: all of them. -/
theorem all_in {l : List Nat} {n : Nat} (hd : l.Nodup) (hl : l.length = n) (h : ∀ x ∈ l, x < n) : ∀ j, j < n → j ∈ l := fun j hj => by
  by_cases hm : j ∈ l
  · exact hm
  · have := len_le n (j :: l) (List.nodup_cons.2 ⟨hm, hd⟩) fun x hx => by
      rcases List.mem_cons.1 hx with rfl | hx
      · exact hj
      · exact h x hx
    rw [List.length_cons] at this
    omega
/-- The heap of the shards. -/
structure Holds (bins : List Bin) (l : List HB) : Prop where
  heap : Heap l
  len : l.length = bins.length
  at_ : ∀ x ∈ l, bins[x.no]? = some (x.ts, x.load)
  one : (l.map HB.no).Nodup
/-- The root is the shard that is filled next. -/
theorem holds_root {bins : List Bin} {l : List HB} (h : Holds bins l) {x : HB} (hx : l[0]? = some x) : leastB bins = x.no ∧ bins[x.no]? = some (x.ts, x.load) := by
  have hxm := List.mem_of_getElem? hx
  have hr := heap_root h.heap hx
  have hall0 : ∀ j, j < bins.length → j ∈ l.map HB.no := all_in h.one (by rw [List.length_map, h.len]) fun n hn => by
    obtain ⟨y, hy, rfl⟩ := List.mem_map.1 hn
    exact (List.getElem?_eq_some_iff.1 (h.at_ y hy)).1
  have hall : ∀ (j : Nat) (b : Bin), bins[j]? = some b → ∃ y ∈ l, y.no = j ∧ y.load = b.2 := fun j b hj => by
    have hjl := (List.getElem?_eq_some_iff.1 hj).1
    obtain ⟨y, hy, e⟩ := List.mem_map.1 (hall0 j hjl)
    subst e
    have := h.at_ y hy
    rw [hj] at this
    obtain rfl : b = (y.ts, y.load) := by simpa using this
    exact ⟨y, hy, rfl, rfl⟩
  refine ⟨least_at (h.at_ x hxm) (fun y hy => ?_) (fun j y hj hy => ?_), h.at_ x hxm⟩
  · obtain ⟨j, hj⟩ := List.getElem?_of_mem hy
    obtain ⟨z, hz, _, e⟩ := hall j y hj
    obtain ⟨i, hi⟩ := List.getElem?_of_mem hz
    have := hr i z hi
    unfold befH at this
    show x.load ≤ y.2
    omega
  · obtain ⟨z, hz, e1, e⟩ := hall j y hy
    obtain ⟨i, hi⟩ := List.getElem?_of_mem hz
    have := hr i z hi
    unfold befH at this
    show x.load < y.2
    omega
end Go.Proofs.YtdjepnilmgembaaGreatDoor

namespace Go.Proofs.YtdjepnilmgembaaGreatDoor
open Go.RowKit

theorem set_root_mem {l : List HB} {x y z : HB} (hx : l[0]? = some x) (ho : (l.map HB.no).Nodup) (hz : z ∈ l.set 0 y) : z = y ∨ (z ∈ l ∧ z.no ≠ x.no) := by
  cases l with
  | nil => simp at hx
  | cons a l =>
    obtain rfl : a = x := by simpa using hx
    rw [List.set_cons_zero] at hz
    rcases List.mem_cons.1 hz with h | h
    · exact .inl h
    · rw [List.map_cons, List.nodup_cons] at ho
      exact .inr ⟨List.mem_cons_of_mem _ h, fun e => ho.1 (List.mem_map.2 ⟨z, h, e⟩)⟩
/-- The heap, when the next test has been put into the root's shard and the root has sunk. -/
theorem holds_step {t : Str → Int} {bins : List Bin} {l l2 : List HB} (h : Holds bins l) {x : HB} (hx : l[0]? = some x) (s : Str) (hh : Heap l2) (hp : l2.Perm (l.set 0 ⟨x.no, x.load + t s, x.ts ++ [s]⟩)) : Holds (stepB t bins s) l2 := by
  obtain ⟨hr, hb⟩ := holds_root h hx
  have hxl := (List.getElem?_eq_some_iff.1 hb).1
  have hst : stepB t bins s = bins.set x.no (x.ts ++ [s], x.load + t s) := by
    unfold stepB
    rw [hr, get_bang hb]
  rw [hst]
  have hmap : (l.set 0 ⟨x.no, x.load + t s, x.ts ++ [s]⟩).map HB.no = l.map HB.no := by
    cases l with
    | nil => rfl
    | cons a l =>
      obtain rfl : a = x := by simpa using hx
      rfl
  refine ⟨hh, by rw [hp.length_eq, List.length_set, List.length_set]; exact h.len, fun y hy => ?_, (hp.map HB.no).nodup_iff.2 (by rw [hmap]; exact h.one)⟩
  rcases set_root_mem hx h.one (hp.mem_iff.1 hy) with rfl | ⟨h1, h2⟩
  · exact List.getElem?_set_self hxl
  · rw [List.getElem?_set_ne (fun e => h2 e.symm)]
    exact h.at_ y h1
def heap0 (n : Nat) : List HB := (List.range n).map fun i => ⟨i, 0, []⟩
theorem holds_start (n : Nat) : Holds (List.replicate n ([], 0)) (heap0 n) := by
  unfold heap0
  refine ⟨fun i k x y hc hx hy => ?_, by simp, fun x hx => ?_, ?_⟩
  · rw [List.getElem?_map, Option.map_eq_some_iff] at hx hy
    obtain ⟨a, ha, rfl⟩ := hx
    obtain ⟨b, hb, rfl⟩ := hy
    rw [List.getElem?_range (by have := (List.getElem?_eq_some_iff.1 ha).1; simpa using this)] at ha
    rw [List.getElem?_range (by have := (List.getElem?_eq_some_iff.1 hb).1; simpa using this)] at hb
    obtain rfl : i = a := by simpa using ha
    obtain rfl : k = b := by simpa using hb
    unfold befH child at *
    simp only
    omega
  · obtain ⟨i, hi, rfl⟩ := List.mem_map.1 hx
    show (List.replicate n (([], 0) : Bin))[i]? = some ([], 0)
    rw [List.getElem?_replicate, if_pos (List.mem_range.1 hi)]
  · rw [List.map_map]
    show ((List.range n).map id).Nodup
    rw [List.map_id]
    exact List.nodup_range
/-- Each number is one shard's of the heap. -/
theorem holds_all {bins : List Bin} {l : List HB} (h : Holds bins l) {j : Nat} {b : Bin} (hj : bins[j]? = some b) : ∃ y ∈ l, y.no = j ∧ y.ts = b.1 := by
  have hjl := (List.getElem?_eq_some_iff.1 hj).1
  obtain ⟨y, hy, e⟩ := List.mem_map.1 (all_in h.one (by rw [List.length_map, h.len]) (fun n hn => by
    obtain ⟨y, hy, rfl⟩ := List.mem_map.1 hn
    exact (List.getElem?_eq_some_iff.1 (h.at_ y hy)).1) j hjl)
  subst e
  have := h.at_ y hy
  rw [hj] at this
  obtain rfl : b = (y.ts, y.load) := by simpa using this
  exact ⟨y, hy, rfl, rfl⟩

/-! Times. -/
structure Tm where
  name : Str
  time : I64
deriving DecidableEq, Inhabited
def limT (n : Int) : Int := max 0 (min n 1125899906842624)
def medT (ts : List Tm) : Int := max 1 (medI (ts.map fun t => limT t.time.1))
def timeT (ts : List Tm) (m : Int) (s : Str) : Int := match ts.find? (fun t => decide (t.name = s)) with | some t => limT t.time.1 | none => m
def clockT (ts : List Tm) (s : Str) : Int := timeT ts (medT ts) s
def loadT (l : List Str) (ts : List Tm) : Int := sumT (clockT ts) l
theorem lim_in (n : Int) : 0 ≤ limT n ∧ limT n ≤ 1125899906842624 := by unfold limT; omega
theorem med_in (ts : List Tm) : 1 ≤ medT ts ∧ medT ts ≤ 1125899906842624 := by
  unfold medT
  have : medI (ts.map fun t => limT t.time.1) ≤ 1125899906842624 := by
    by_cases he : ts.map (fun t => limT t.time.1) = []
    · rw [he]; decide
    · have hm := med_of (srt_perm (ts.map fun t => limT t.time.1)) (srt_up _) he
      have h2 := (srt_perm (ts.map fun t => limT t.time.1)).mem_iff.1 (List.mem_of_getElem? hm)
      obtain ⟨t, _, e⟩ := List.mem_map.1 h2
      have := lim_in t.time.1
      omega
  omega
theorem time_in (ts : List Tm) (s : Str) : 0 ≤ clockT ts s ∧ clockT ts s ≤ 1125899906842624 := by
  unfold clockT timeT
  split
  · exact lim_in _
  · have := med_in ts
    omega
theorem load_in (l : List Str) (ts : List Tm) : 0 ≤ loadT l ts ∧ loadT l ts ≤ 1125899906842624 * l.length := by
  unfold loadT sumT
  induction l with
  | nil => simp
  | cons a l ih =>
    have := time_in ts a
    simp only [List.map_cons, List.sum_cons, List.length_cons]
    have e : (1125899906842624 : Int) * ((l.length + 1 : Nat) : Int) = 1125899906842624 * (l.length : Int) + 1125899906842624 := by rw [Int.natCast_add, Int.mul_add]; simp
    omega
/-! Errors. -/
def nmErr (seen : List Str) (s : Str) : Int := if pathB s = false then 1 else if hasS seen s = true then 7 else 0
def nmsErr : List Str → List Str → Int
  | _, [] => 0
  | seen, s :: l => if nmErr seen s = 0 then nmsErr (seen ++ [s]) l else nmErr seen s
def splErr (l : List Str) (n : Int) : Int := if n < 1 ∨ 64 < n then 2 else if 4096 < l.length then 15 else nmsErr [] l
theorem nmsErr_ok : ∀ {l seen : List Str}, nmsErr seen l = 0 → (∀ s ∈ l, pathB s = true ∧ s ∉ seen) ∧ l.Nodup
  | [], seen, _ => ⟨fun _ h => absurd h List.not_mem_nil, .nil⟩
  | s :: l, seen, h => by
    unfold nmsErr at h
    by_cases h0 : nmErr seen s = 0
    · rw [if_pos h0] at h
      obtain ⟨h1, h2⟩ := nmsErr_ok h
      have h3 : pathB s = true ∧ s ∉ seen := by
        unfold nmErr at h0
        by_cases hp : pathB s = false
        · rw [if_pos hp] at h0; cases h0
        · rw [if_neg hp] at h0
          by_cases hs : hasS seen s = true
          · rw [if_pos hs] at h0; cases h0
          · exact ⟨by simpa using hp, fun hm => hs (hasS_iff.2 hm)⟩
      refine ⟨fun x hx => ?_, List.nodup_cons.2 ⟨fun hm => (h1 s hm).2 (by simp), h2⟩⟩
      rcases List.mem_cons.1 hx with rfl | hx
      · exact h3
      · exact ⟨(h1 x hx).1, fun hm => (h1 x hx).2 (by simp [hm])⟩
    · rw [if_neg h0] at h
      exact absurd h h0
theorem splErr_ok {l : List Str} {n : Int} (h : splErr l n = 0) : 1 ≤ n ∧ n ≤ 64 ∧ l.length ≤ 4096 ∧ (∀ s ∈ l, pathB s = true) ∧ l.Nodup := by
  unfold splErr at h
  by_cases h1 : n < 1 ∨ 64 < n
  · rw [if_pos h1] at h; cases h
  · rw [if_neg h1] at h
    by_cases h2 : 4096 < l.length
    · rw [if_pos h2] at h; cases h
    · rw [if_neg h2] at h
      obtain ⟨a, b⟩ := nmsErr_ok h
      exact ⟨by omega, by omega, by omega, fun s hs => (a s hs).1, b⟩
theorem nmsErr_of : ∀ {l seen : List Str}, (∀ s ∈ l, pathB s = true ∧ s ∉ seen) → l.Nodup → nmsErr seen l = 0
  | [], _, _, _ => rfl
  | s :: l, seen, h, hd => by
    obtain ⟨h1, h2⟩ := h s (by simp)
    rw [List.nodup_cons] at hd
    unfold nmsErr
    have h0 : nmErr seen s = 0 := by
      unfold nmErr
      rw [if_neg (by rw [h1]; decide), if_neg (fun hs => h2 (hasS_iff.1 hs))]
    rw [if_pos h0]
    refine nmsErr_of (fun x hx => ⟨(h x (by simp [hx])).1, fun hm => ?_⟩) hd.2
    rcases List.mem_append.1 hm with hm | hm
    · exact (h x (by simp [hx])).2 hm
    · obtain rfl : x = s := by simpa using hm
      exact hd.1 hx
/-- The order of the tests does not matter. -/
theorem spl_turn {l m : List Str} (hp : l.Perm m) (n : Int) : splErr l n = 0 ↔ splErr m n = 0 := by
  have key : ∀ {l m : List Str}, l.Perm m → splErr l n = 0 → splErr m n = 0 := fun {l m} hp h => by
    obtain ⟨h1, h2, h3, h4, h5⟩ := splErr_ok h
    unfold splErr
    rw [if_neg (by omega), if_neg (by rw [← hp.length_eq]; omega)]
    exact nmsErr_of (fun s hs => ⟨h4 s (hp.mem_iff.2 hs), List.not_mem_nil⟩) (hp.nodup_iff.1 h5)
  exact ⟨key hp, key hp.symm⟩
theorem ord_turn {t : Str → Int} {l m : List Str} (hp : l.Perm m) (hd : l.Nodup) : ordL t l = ordL t m :=
  ord_one ((ord_perm t l).trans (hp.trans (ord_perm t m).symm)) (ord_ok t hd) (ord_ok t (hp.nodup_iff.1 hd))
end Go.Proofs.YtdjepnilmgembaaGreatDoor

namespace Go.Proofs.YtdjepnilmgembaaGreatDoor
open Go.RowKit

def befHB (a b : HB) : Bool := decide (a.load < b.load) || (decide (a.load = b.load) && decide (a.no < b.no))
theorem befHB_iff {a b : HB} : befHB a b = true ↔ befH a b := by unfold befHB befH; simp
/-- Which place comes up, when so many children have been looked at. -/
def nxH (l : List HB) (p : Nat) : Nat → Nat
  | 0 => p
  | j + 1 => if 2 * p + 1 + j < l.length ∧ befHB l[2 * p + 1 + j]! l[nxH l p j]! = true then 2 * p + 1 + j else nxH l p j
theorem nx_lt {l : List HB} {p : Nat} (h : p < l.length) : ∀ j, nxH l p j < l.length
  | 0 => h
  | j + 1 => by
    rw [nxH]
    split
    · rename_i h1; exact h1.1
    · exact nx_lt h j
theorem nx_yes {l : List HB} {p j : Nat} (h1 : 2 * p + 1 + j < l.length) (h2 : befHB l[2 * p + 1 + j]! l[nxH l p j]! = true) : nxH l p (j + 1) = 2 * p + 1 + j := by rw [nxH, if_pos ⟨h1, h2⟩]
theorem nx_no {l : List HB} {p j : Nat} (h : ¬ 2 * p + 1 + j < l.length ∨ befHB l[2 * p + 1 + j]! l[nxH l p j]! = false) : nxH l p (j + 1) = nxH l p j := by
  rw [nxH, if_neg]
  rintro ⟨h1, h2⟩
  rcases h with h | h
  · exact h h1
  · rw [h] at h2; cases h2
/-- What the two looks tell. -/
theorem nx_two {l : List HB} {p : Nat} {a : HB} (ha : l[p]? = some a) : ∃ b, l[nxH l p 2]? = some b ∧ (nxH l p 2 = p ∨ child p (nxH l p 2)) ∧ (nxH l p 2 ≠ p → befH b a) ∧ ∀ k y, child p k → l[k]? = some y → ¬ befH y b := by
  have hp := (List.getElem?_eq_some_iff.1 ha).1
  have e1 : nxH l p 1 = if 2 * p + 1 < l.length ∧ befHB l[2 * p + 1]! l[p]! = true then 2 * p + 1 else p := rfl
  have e2 : nxH l p 2 = if 2 * p + 2 < l.length ∧ befHB l[2 * p + 2]! l[nxH l p 1]! = true then 2 * p + 2 else nxH l p 1 := rfl
  rw [get_bang ha] at e1
  have hk : ∀ k y, child p k → l[k]? = some y → (k = 2 * p + 1 ∧ 2 * p + 1 < l.length ∧ l[2 * p + 1]! = y) ∨ (k = 2 * p + 2 ∧ 2 * p + 2 < l.length ∧ l[2 * p + 2]! = y) := fun k y hc hy => by
    have hkl := (List.getElem?_eq_some_iff.1 hy).1
    rcases hc with rfl | rfl
    · exact .inl ⟨rfl, hkl, get_bang hy⟩
    · exact .inr ⟨rfl, hkl, get_bang hy⟩
  by_cases h1 : 2 * p + 1 < l.length ∧ befHB l[2 * p + 1]! a = true
  · rw [if_pos h1] at e1
    rw [e1] at e2
    obtain ⟨c1, hc1⟩ := get_some h1.1
    have h1b := h1.2
    rw [get_bang hc1] at h1b e2
    have g1 := befHB_iff.1 h1b
    by_cases h2 : 2 * p + 2 < l.length ∧ befHB l[2 * p + 2]! c1 = true
    · rw [if_pos h2] at e2
      obtain ⟨c2, hc2⟩ := get_some h2.1
      have h2b := h2.2
      rw [get_bang hc2] at h2b
      have g2 := befHB_iff.1 h2b
      refine ⟨c2, by rw [e2]; exact hc2, .inr (by rw [e2]; exact .inr rfl), fun _ => by unfold befH at *; omega, fun k y hck hy => ?_⟩
      rcases hk k y hck hy with ⟨rfl, _, e⟩ | ⟨rfl, _, e⟩
      · rw [get_bang hc1] at e; subst e; unfold befH at *; omega
      · rw [get_bang hc2] at e; subst e; unfold befH at *; omega
    · rw [if_neg h2] at e2
      refine ⟨c1, by rw [e2]; exact hc1, .inr (by rw [e2]; exact .inl rfl), fun _ => g1, fun k y hck hy => ?_⟩
      rcases hk k y hck hy with ⟨rfl, _, e⟩ | ⟨rfl, hlt, e⟩
      · rw [get_bang hc1] at e; subst e; unfold befH at *; omega
      · intro h3
        refine h2 ⟨hlt, ?_⟩
        rw [e]
        exact befHB_iff.2 h3
  · rw [if_neg h1] at e1
    rw [e1, get_bang ha] at e2
    have g1 : ∀ y, l[2 * p + 1]? = some y → ¬ befH y a := fun y hy h3 => h1 ⟨(List.getElem?_eq_some_iff.1 hy).1, by rw [get_bang hy]; exact befHB_iff.2 h3⟩
    by_cases h2 : 2 * p + 2 < l.length ∧ befHB l[2 * p + 2]! a = true
    · rw [if_pos h2] at e2
      obtain ⟨c2, hc2⟩ := get_some h2.1
      have h2b := h2.2
      rw [get_bang hc2] at h2b
      have g2 := befHB_iff.1 h2b
      refine ⟨c2, by rw [e2]; exact hc2, .inr (by rw [e2]; exact .inr rfl), fun _ => g2, fun k y hck hy => ?_⟩
      rcases hk k y hck hy with ⟨rfl, _, e⟩ | ⟨rfl, _, e⟩
      · have := g1 y hy; unfold befH at *; omega
      · rw [get_bang hc2] at e; subst e; unfold befH at *; omega
    · rw [if_neg h2] at e2
      refine ⟨a, by rw [e2]; exact ha, .inl e2, fun h => absurd e2 h, fun k y hck hy => ?_⟩
      rcases hk k y hck hy with ⟨rfl, _, e⟩ | ⟨rfl, hlt, e⟩
      · exact g1 y hy
      · intro h3
        refine h2 ⟨hlt, ?_⟩
        rw [e]
        exact befHB_iff.2 h3
theorem nx_done {l : List HB} {p : Nat} (h : HeapEx l p) {a : HB} (ha : l[p]? = some a) (e : nxH l p 2 = p) : Heap l := by
  obtain ⟨b, hb, _, _, h4⟩ := nx_two ha
  rw [e, ha] at hb
  obtain rfl : a = b := by simpa using hb
  exact heap_done h fun k x y hc hx hy => by
    rw [ha] at hx
    obtain rfl : a = x := by simpa using hx
    exact h4 k y hc hy
theorem nx_step {l : List HB} {p q : Nat} (h : HeapEx l p) {a : HB} (ha : l[p]? = some a) (e : nxH l p 2 = q) (hq : q ≠ p) : ∃ b, l[q]? = some b ∧ p < q ∧ HeapEx (swapL l p q) q := by
  obtain ⟨b, hb, h2, h3, h4⟩ := nx_two ha
  rw [e] at hb h2 h3
  have hc := h2.resolve_left hq
  refine ⟨b, hb, by unfold child at hc; omega, heap_step h hc ha hb (h3 hq) h4⟩
end Go.Proofs.YtdjepnilmgembaaGreatDoor

namespace Go.Proofs.YtdjepnilmgembaaGreatDoor
open Go.RowKit

theorem srt_nodup (l : List Str) : (srt l).Nodup := by
  have h := (srtOf_is ord_str l).1
  exact List.Pairwise.imp (fun {a b} h e => by rw [e, (ord_str.zero b b).2 rfl] at h; omega) h
theorem srt_mem (l : List Str) (s : Str) : s ∈ srt l ↔ s ∈ l := (srtOf_is ord_str l).2 s
theorem srt_perm_of {l : List Str} (hd : l.Nodup) : (srt l).Perm l := (List.perm_ext_iff_of_nodup (srt_nodup l) hd).2 (srt_mem l)
/-- The shards behind a split. -/
def binsT (ts : List Tm) (l : List Str) (n : Nat) : List Bin := fillB (clockT ts) n (ordL (clockT ts) l)
def outT (ts : List Tm) (l : List Str) (n : Nat) : List (List Str) := (binsT ts l n).map fun b => srt b.1
def shdL (ts : List Tm) (l : List Str) (n : Int) : List (List Str) := if splErr l n = 0 then outT ts l n.toNat else []
theorem outT_len (ts : List Tm) (l : List Str) (n : Nat) : (outT ts l n).length = n := by unfold outT binsT; rw [List.length_map, fill_len]
theorem shdL_ok {ts : List Tm} {l : List Str} {n : Int} (h : splErr l n = 0) : shdL ts l n = outT ts l n.toNat := by unfold shdL; rw [if_pos h]
theorem shdL_no {ts : List Tm} {l : List Str} {n : Int} (h : splErr l n ≠ 0) : shdL ts l n = [] := by unfold shdL; rw [if_neg h]
theorem clock_nn (ts : List Tm) (s : Str) : 0 ≤ clockT ts s := (time_in ts s).1
theorem bins_filled {ts : List Tm} {l : List Str} {n : Nat} (hn : 0 < n) : Filled (clockT ts) n (ordL (clockT ts) l) (binsT ts l n) := filled (clock_nn ts) hn _
/-- What is in a shard, each once. -/
theorem bins_nodup {ts : List Tm} {l : List Str} {n : Nat} (hn : 0 < n) (hd : l.Nodup) {b : Bin} (hb : b ∈ binsT ts l n) : b.1.Nodup := by
  have h1 := (bins_filled (ts := ts) (l := l) hn).all
  have h2 : ((binsT ts l n).flatMap (·.1)).Nodup := h1.nodup_iff.2 ((ord_perm _ l).nodup_iff.2 hd)
  exact List.Nodup.sublist (by
    obtain ⟨a, c, e⟩ := List.append_of_mem hb
    rw [e, List.flatMap_append, List.flatMap_cons]
    exact (List.sublist_append_left _ _).trans (List.sublist_append_right _ _)) h2
/-- The first law: each test is in one shard. -/
theorem out_once {ts : List Tm} {l : List Str} {n : Nat} (hn : 0 < n) (hd : l.Nodup) {s : Str} (hs : s ∈ l) : (outT ts l n).countP (fun x => hasS x s) = 1 := by
  have h := filled_once (bins_filled (ts := ts) (l := l) hn) ((ord_perm _ l).nodup_iff.2 hd) ((ord_perm (clockT ts) l).mem_iff.2 hs)
  unfold outT
  rw [List.countP_map]
  rw [← h]
  congr 1
  funext b
  show hasS (srt b.1) s = hasS b.1 s
  rw [Bool.eq_iff_iff, hasS_iff, hasS_iff, srt_mem]
/-- The second: no shard takes longer than the average and the longest test. -/
theorem out_most {ts : List Tm} {l : List Str} {n : Nat} (hn : 0 < n) (hd : l.Nodup) {M : Int} (hM : ∀ s ∈ l, clockT ts s ≤ M) (h0 : 0 ≤ M) {x : List Str} (hx : x ∈ outT ts l n) : loadT x ts ≤ loadT l ts / (n : Int) + M := by
  obtain ⟨b, hb, rfl⟩ := List.mem_map.1 hx
  have hF := bins_filled (ts := ts) (l := l) hn
  have hp := ord_perm (clockT ts) l
  have h1 := filled_most hn hF (M := M) (fun s hs => hM s (hp.mem_iff.1 hs)) h0 (sum_pos (clock_nn ts) _) hb
  rw [sum_perm hp] at h1
  have h2 : loadT (srt b.1) ts = b.2 := by
    unfold loadT
    rw [sum_perm (srt_perm_of (bins_nodup hn hd hb)), ← hF.load b hb]
  rw [h2]
  exact h1
/-- The third: the shards hold as many tests as there are. -/
theorem out_sum {ts : List Tm} {l : List Str} {n : Nat} (hn : 0 < n) (hd : l.Nodup) : ((outT ts l n).map List.length).sum = l.length := by
  have h1 := (bins_filled (ts := ts) (l := l) hn).all.length_eq
  rw [(ord_perm (clockT ts) l).length_eq, List.length_flatMap] at h1
  rw [← h1]
  unfold outT
  rw [List.map_map]
  congr 1
  refine List.map_congr_left fun b hb => ?_
  exact (srt_perm_of (bins_nodup hn hd hb)).length_eq
/-- The order of the tests does not matter. -/
theorem shdL_turn {ts : List Tm} {l m : List Str} (hp : l.Perm m) (n : Int) : shdL ts l n = shdL ts m n := by
  unfold shdL
  by_cases h : splErr l n = 0
  · rw [if_pos h, if_pos ((spl_turn hp n).1 h)]
    unfold outT binsT
    rw [ord_turn hp (splErr_ok h).2.2.2.2]
  · rw [if_neg h, if_neg (fun h2 => h ((spl_turn hp n).2 h2))]
end Go.Proofs.YtdjepnilmgembaaGreatDoor

namespace Go.Proofs.YtdjepnilmgembaaGreatDoor
open Go.RowKit

def sA : Str := ⟨⟨#[97]⟩, by decide⟩
def sB : Str := ⟨⟨#[98]⟩, by decide⟩
def sC : Str := ⟨⟨#[99]⟩, by decide⟩
def sD : Str := ⟨⟨#[100]⟩, by decide⟩
def exT : List Tm := [⟨sA, ⟨5, by omega⟩⟩, ⟨sB, ⟨4, by omega⟩⟩, ⟨sC, ⟨3, by omega⟩⟩, ⟨sD, ⟨3, by omega⟩⟩]
def exL : List Str := [sD, sC, sB, sA]
theorem ex_med : medT exT = 3 := by
  unfold medT
  have h : medI (exT.map fun t => limT t.time.1) = 3 := by
    have e : exT.map (fun t => limT t.time.1) = [5, 4, 3, 3] := by decide +kernel
    rw [e]
    have h1 := med_of (l := [5, 4, 3, 3]) (s := [3, 3, 4, 5]) (by decide) (by unfold UpI; decide) (by decide)
    have h2 : ([3, 3, 4, 5] : List Int)[(([5, 4, 3, 3] : List Int).length - 1) / 2]? = some 3 := by decide
    rw [h2] at h1
    exact (Option.some.inj h1).symm
  rw [h]
  decide
theorem ex_a : clockT exT sA = 5 := by unfold clockT; rw [ex_med]; decide +kernel
theorem ex_b : clockT exT sB = 4 := by unfold clockT; rw [ex_med]; decide +kernel
theorem ex_c : clockT exT sC = 3 := by unfold clockT; rw [ex_med]; decide +kernel
theorem ex_d : clockT exT sD = 3 := by unfold clockT; rw [ex_med]; decide +kernel
theorem ex_err : splErr exL 2 = 0 := by decide +kernel
theorem ex_perm : exL.Perm [sA, sB, sC, sD] := by
  have h : [sA, sB, sC, sD] = exL.reverse := rfl
  rw [h]
  exact (List.reverse_perm _).symm
theorem ex_ord : ordL (clockT exT) exL = [sA, sB, sC, sD] := by
  refine ord_one ((ord_perm _ _).trans ex_perm) (ord_ok _ (by decide +kernel)) ?_
  unfold OrdT
  have hcd : cmpS sC sD < 0 := by decide +kernel
  refine List.pairwise_cons.2 ⟨fun y hy => ?_, List.pairwise_cons.2 ⟨fun y hy => ?_, List.pairwise_cons.2 ⟨fun y hy => ?_, List.pairwise_singleton _ _⟩⟩⟩
  · simp only [List.mem_cons, List.not_mem_nil, or_false] at hy
    rcases hy with rfl | rfl | rfl
    · exact .inl (by rw [ex_a, ex_b]; decide)
    · exact .inl (by rw [ex_a, ex_c]; decide)
    · exact .inl (by rw [ex_a, ex_d]; decide)
  · simp only [List.mem_cons, List.not_mem_nil, or_false] at hy
    rcases hy with rfl | rfl
    · exact .inl (by rw [ex_b, ex_c]; decide)
    · exact .inl (by rw [ex_b, ex_d]; decide)
  · obtain rfl : y = sD := by simpa using hy
    exact .inr ⟨by rw [ex_c, ex_d], hcd⟩
def exClk (s : Str) : Int := if s = sA then 5 else if s = sB then 4 else 3
theorem ex_fill : fillB (clockT exT) 2 [sA, sB, sC, sD] = [([sA, sD], 8), ([sB, sC], 7)] := by
  have h : fillB exClk 2 [sA, sB, sC, sD] = [([sA, sD], 8), ([sB, sC], 7)] := by decide +kernel
  rw [← h]
  unfold fillB
  simp only [List.foldl_cons, List.foldl_nil]
  unfold stepB
  rw [ex_a, ex_b, ex_c, ex_d, show exClk sA = 5 by decide +kernel, show exClk sB = 4 by decide +kernel, show exClk sC = 3 by decide +kernel, show exClk sD = 3 by decide +kernel]
theorem ex_srt1 : srt [sA, sD] = [sA, sD] := by
  refine (srtOf_eq ord_str ⟨?_, fun _ => Iff.rfl⟩).symm
  exact List.pairwise_cons.2 ⟨fun y hy => by obtain rfl := List.mem_singleton.1 hy; decide +kernel, List.pairwise_singleton _ _⟩
theorem ex_srt2 : srt [sB, sC] = [sB, sC] := by
  refine (srtOf_eq ord_str ⟨?_, fun _ => Iff.rfl⟩).symm
  exact List.pairwise_cons.2 ⟨fun y hy => by obtain rfl := List.mem_singleton.1 hy; decide +kernel, List.pairwise_singleton _ _⟩
theorem ex_spl : shdL exT exL 2 = [[sA, sD], [sB, sC]] := by
  rw [shdL_ok ex_err]
  unfold outT binsT
  rw [ex_ord, show (2 : Int).toNat = 2 from rfl, ex_fill]
  show [srt [sA, sD], srt [sB, sC]] = _
  rw [ex_srt1, ex_srt2]
theorem ex_load : loadT [sA, sD] exT = 8 := by
  unfold loadT sumT
  simp only [List.map_cons, List.map_nil, List.sum_cons, List.sum_nil]
  rw [ex_a, ex_d]
  decide
end Go.Proofs.YtdjepnilmgembaaGreatDoor

namespace Go.Proofs.YtdjepnilmgembaaGreatDoor
open Go.ChangeShapes Go.WideShapes Go.ChangeAt Go.RowKit
def tmE (x : Tm) : List Value := [.string x.name.1, .int .i64 x.time.1]
theorem tmE_len (x : Tm) : (tmE x).length = 2 := rfl
theorem tmE_one (x : Tm) : ∀ u ∈ tmE x, u.oneCell' = true := by
  intro u hu
  simp only [tmE, List.mem_cons, List.not_mem_nil, or_false] at hu
  rcases hu with rfl | rfl <;> rfl
set_option maxRecDepth 100000 in
theorem tmE_of {H : Type} {enc : TypeId × Value → H} {w : World} {base : Nat} {sp : Nat → Bool} {hd : Bool} (fuel : Nat) (cs : List Value) (x : DataW H × List MemPlace) (h : DataW.trod enc Tryz.prog w base sp hd fuel 45 cs = some x) : ∃ y : Tm, cs = tmE y := by
  obtain ⟨hl, hf⟩ := trod_fields Tryz.underlying45 h
  rw [show Tryz.prog.cellsOf 45 = 2 by kernel_rfl] at hl
  match cs, hl with
  | [c0, c1], _ =>
    obtain ⟨n0, y0, h0⟩ := hf 0 _ rfl
    change DataW.trod _ _ _ _ _ _ _ 9 (List.take (Tryz.prog.cellsOf 9) (List.drop 0 _)) = _ at h0
    rw [show Tryz.prog.cellsOf 9 = 1 by kernel_rfl] at h0
    obtain ⟨v0, e0⟩ := leaf_string Tryz.underlying9 h0
    simp at e0
    obtain ⟨n1, y1, h1⟩ := hf 1 _ rfl
    change DataW.trod _ _ _ _ _ _ _ 3 (List.take (Tryz.prog.cellsOf 3) (List.drop 1 _)) = _ at h1
    rw [show Tryz.prog.cellsOf 3 = 1 by kernel_rfl] at h1
    obtain ⟨v1, e1⟩ := leaf_int Tryz.underlying3 h1
    simp at e1
    subst e0 e1
    exact ⟨⟨v0, v1⟩, rfl⟩
end Go.Proofs.YtdjepnilmgembaaGreatDoor
