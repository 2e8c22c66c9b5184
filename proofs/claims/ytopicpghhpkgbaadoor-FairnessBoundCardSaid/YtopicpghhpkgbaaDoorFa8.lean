/-
  Plain laws of fairness: the order of valid shares, the smallest one among those that are listed.
-/
import Derived.Test.YtopicpghhpkgbaaDoorFa7
namespace Go.Proofs.YtopicpghhpkgbaaDoor
open Go.RowKit
variable {l : List Share} {p : Str}

theorem les_iff {x y : Share} : lesS x y = true ↔ x.served.1 * y.weight.1 < y.served.1 * x.weight.1 := by unfold lesS Num.ltB; simp
theorem les_no {x y : Share} : lesS x y = false ↔ y.served.1 * x.weight.1 ≤ x.served.1 * y.weight.1 := by unfold lesS Num.ltB; simp
theorem ratio_le {a b c u v w : Int} (hu : 0 < u) (hv : 0 < v) (hw : 0 < w) (h1 : a * v ≤ b * u) (h2 : b * w ≤ c * v) : a * w ≤ c * u := by
  have e1 : a * v * w ≤ b * u * w := Int.mul_le_mul_of_nonneg_right h1 (by omega)
  have e2 : b * w * u ≤ c * v * u := Int.mul_le_mul_of_nonneg_right h2 (by omega)
  have e3 : (a * w) * v ≤ (c * u) * v := by
    rw [show a * w * v = a * v * w by ac_rfl, show c * u * v = c * v * u by ac_rfl]
    rw [show b * u * w = b * w * u by ac_rfl] at e1
    omega
  exact Int.le_of_mul_le_mul_right e3 hv
theorem ratio_lt {a b c u v w : Int} (hu : 0 < u) (hv : 0 < v) (hw : 0 < w) (h : a * v < b * u ∧ b * w ≤ c * v ∨ a * v ≤ b * u ∧ b * w < c * v) : a * w < c * u := by
  have e3 : (a * w) * v < (c * u) * v := by
    rw [show a * w * v = a * v * w by ac_rfl, show c * u * v = c * v * u by ac_rfl]
    rcases h with ⟨h1, h2⟩ | ⟨h1, h2⟩
    · have e1 : a * v * w < b * u * w := Int.mul_lt_mul_of_pos_right h1 hw
      have e2 : b * w * u ≤ c * v * u := Int.mul_le_mul_of_nonneg_right h2 (by omega)
      rw [show b * u * w = b * w * u by ac_rfl] at e1
      omega
    · have e1 : a * v * w ≤ b * u * w := Int.mul_le_mul_of_nonneg_right h1 (by omega)
      have e2 : b * w * u < c * v * u := Int.mul_lt_mul_of_pos_right h2 hu
      rw [show b * u * w = b * w * u by ac_rfl] at e1
      omega
  exact Int.lt_of_mul_lt_mul_right e3 (by omega)
theorem befB_eq (x y : Share) : befB x y = (lesS x y || !lesS y x && decide (cmpS x.proj y.proj < 0)) := befS_neg x y
theorem befB_iff {x y : Share} : befB x y = true ↔ x.served.1 * y.weight.1 < y.served.1 * x.weight.1 ∨ x.served.1 * y.weight.1 ≤ y.served.1 * x.weight.1 ∧ cmpS x.proj y.proj < 0 := by
  rw [befB_eq, Bool.or_eq_true, Bool.and_eq_true, les_iff, decide_eq_true_eq, Bool.not_eq_true', les_no]
theorem bef_trans {x y z : Share} (hx : okS x = true) (hy : okS y = true) (hz : okS z = true) (h1 : befB x y = true) (h2 : befB y z = true) : befB x z = true := by
  obtain ⟨rx, _⟩ := okS_range hx
  obtain ⟨ry, _⟩ := okS_range hy
  obtain ⟨rz, _⟩ := okS_range hz
  rw [befB_iff] at h1 h2 ⊢
  rcases h1 with a | ⟨a, a2⟩ <;> rcases h2 with b | ⟨b, b2⟩
  · exact Or.inl (ratio_lt (by omega) (by omega : 0 < y.weight.1) (by omega) (Or.inl ⟨a, Int.le_of_lt b⟩))
  · exact Or.inl (ratio_lt (by omega) (by omega : 0 < y.weight.1) (by omega) (Or.inl ⟨a, b⟩))
  · exact Or.inl (ratio_lt (by omega) (by omega : 0 < y.weight.1) (by omega) (Or.inr ⟨a, b⟩))
  · exact Or.inr ⟨ratio_le (by omega) (by omega : 0 < y.weight.1) (by omega) a b, ord_str.trans _ _ _ a2 b2⟩
theorem bef_irrefl (x : Share) : befB x x = false := by
  rw [← Bool.not_eq_true, befB_iff]
  rintro (h | ⟨_, h⟩)
  · omega
  · exact ord_str.irrefl _ h
theorem bef_asymm {x y : Share} (h : befB x y = true) : befB y x = false := by
  rw [← Bool.not_eq_true, befB_iff]
  rw [befB_iff] at h
  have hn := ord_str.neg x.proj y.proj
  omega
theorem bef_total {x y : Share} (h : befB x y = false) (hne : x.proj ≠ y.proj) : befB y x = true := by
  rw [← Bool.not_eq_true, befB_iff] at h
  rw [befB_iff]
  have hn := ord_str.neg x.proj y.proj
  have h0 := mt (ord_str.zero x.proj y.proj).1 hne
  omega
/-- What does not come before, does not come before what comes before. -/
theorem bef_ntrans {x y z : Share} (hx : okS x = true) (hy : okS y = true) (hz : okS z = true) (h1 : befB x y = false) (h2 : befB y z = false) : befB x z = false := by
  obtain ⟨rx, _⟩ := okS_range hx
  obtain ⟨ry, _⟩ := okS_range hy
  obtain ⟨rz, _⟩ := okS_range hz
  rw [← Bool.not_eq_true, befB_iff] at h1 h2 ⊢
  rintro h
  have n1 : y.served.1 * x.weight.1 ≤ x.served.1 * y.weight.1 := by omega
  have n2 : z.served.1 * y.weight.1 ≤ y.served.1 * z.weight.1 := by omega
  rcases h with h | ⟨h, hc⟩
  · have := ratio_le (by omega) (by omega : 0 < y.weight.1) (by omega) n2 n1
    omega
  · by_cases s1 : y.served.1 * x.weight.1 < x.served.1 * y.weight.1
    · have := ratio_lt (by omega) (by omega : 0 < y.weight.1) (by omega) (Or.inr ⟨n2, s1⟩)
      omega
    · by_cases s2 : z.served.1 * y.weight.1 < y.served.1 * z.weight.1
      · have := ratio_lt (by omega) (by omega : 0 < y.weight.1) (by omega) (Or.inl ⟨s2, n1⟩)
        omega
      · have c1 : ¬ cmpS x.proj y.proj < 0 := by omega
        have c2 : ¬ cmpS y.proj z.proj < 0 := by omega
        by_cases e : x.proj = y.proj
        · rw [e] at hc; exact c2 hc
        · exact c2 (ord_str.trans _ _ _ (ord_str.total c1 e) hc)

/-- The smallest share of l of those that q lists, if there is one. -/
def Least (q : Share → Prop) (l : List Share) : Option Share → Prop
  | none => ∀ y ∈ l, ¬ q y
  | some b => b ∈ l ∧ q b ∧ ∀ y ∈ l, q y → befB y b = false
theorem asc_inj (ha : AscP l) {x y : Share} (hx : x ∈ l) (hy : y ∈ l) (h : x.proj = y.proj) : x = y := by
  obtain ⟨i, hi⟩ := List.getElem?_of_mem hx
  obtain ⟨j, hj⟩ := List.getElem?_of_mem hy
  rcases Nat.lt_trichotomy i j with c | c | c
  · exact absurd h (cmp_ne (ha i j x y c hi hj))
  · subst c; rw [hi] at hj; simpa using hj
  · exact absurd h.symm (cmp_ne (ha j i y x c hj hi))
theorem Least.unique {q : Share → Prop} {o1 o2 : Option Share} (ha : AscP l) (h1 : Least q l o1) (h2 : Least q l o2) : o1 = o2 := by
  rcases o1 with _ | a <;> rcases o2 with _ | b
  · rfl
  · exact absurd h2.2.1 (h1 b h2.1)
  · exact absurd h1.2.1 (h2 a h1.1)
  · by_cases e : a.proj = b.proj
    · rw [asc_inj ha h1.1 h2.1 e]
    · have := bef_total (h1.2.2 b h2.1 h2.2.1) (fun h => e h.symm)
      rw [h2.2.2 a h1.1 h1.2.1] at this; cases this
/-- One share more is looked at. -/
theorem Least.skip {q : Share → Prop} {k : Nat} {x : Share} {o : Option Share} (h : Least q (l.take k) o) (hx : l[k]? = some x) (hq : ¬ q x) : Least q (l.take (k + 1)) o := by
  rw [List.take_add_one, hx]
  rcases o with _ | b
  · intro y hy hqy
    rcases List.mem_append.1 hy with hy | hy
    · exact h y hy hqy
    · obtain rfl : y = x := by simpa using hy
      exact hq hqy
  · refine ⟨List.mem_append_left _ h.1, h.2.1, fun y hy hqy => ?_⟩
    rcases List.mem_append.1 hy with hy | hy
    · exact h.2.2 y hy hqy
    · obtain rfl : y = x := by simpa using hy
      exact absurd hqy hq
theorem Least.first {q : Share → Prop} {k : Nat} {x : Share} (h : Least q (l.take k) none) (hx : l[k]? = some x) (hq : q x) : Least q (l.take (k + 1)) (some x) := by
  rw [List.take_add_one, hx]
  refine ⟨by simp, hq, fun y hy hqy => ?_⟩
  rcases List.mem_append.1 hy with hy | hy
  · exact absurd hqy (h y hy)
  · obtain rfl : y = x := by simpa using hy
    exact bef_irrefl _
theorem Least.keep {q : Share → Prop} {k : Nat} {x b : Share} (h : Least q (l.take k) (some b)) (hx : l[k]? = some x) (hb : befB x b = false) : Least q (l.take (k + 1)) (some b) := by
  rw [List.take_add_one, hx]
  refine ⟨List.mem_append_left _ h.1, h.2.1, fun y hy hqy => ?_⟩
  rcases List.mem_append.1 hy with hy | hy
  · exact h.2.2 y hy hqy
  · obtain rfl : y = x := by simpa using hy
    exact hb
theorem Least.turn {q : Share → Prop} {k : Nat} {x b : Share} (hok : ∀ y ∈ l, okS y = true) (h : Least q (l.take k) (some b)) (hx : l[k]? = some x) (hq : q x) (hb : befB x b = true) : Least q (l.take (k + 1)) (some x) := by
  have hxl := List.mem_of_getElem? hx
  have hbl := List.mem_of_mem_take h.1
  rw [List.take_add_one, hx]
  refine ⟨by simp, hq, fun y hy hqy => ?_⟩
  rcases List.mem_append.1 hy with hy | hy
  · have h1 := h.2.2 y hy hqy
    exact bef_ntrans (hok y (List.mem_of_mem_take hy)) (hok b hbl) (hok x hxl) h1 (bef_asymm hb)
  · obtain rfl : y = x := by simpa using hy
    exact bef_irrefl _
theorem Least.congr {q r : Share → Prop} {o : Option Share} (h : Least q l o) (e : ∀ x ∈ l, q x ↔ r x) : Least r l o := by
  rcases o with _ | b
  · exact fun y hy hr => h y hy ((e y hy).2 hr)
  · exact ⟨h.1, (e b h.1).1 h.2.1, fun y hy hr => h.2.2 y hy ((e y hy).2 hr)⟩
/-- One project more is listed. -/
theorem Least.none_ask {ps : List Str} {i : Nat} {s : Str} {o : Option Share} (h : Least (fun x => x.proj ∈ ps.take i) l o) (hs : ps[i]? = some s) (hno : ∀ x ∈ l, x.proj ≠ s) : Least (fun x => x.proj ∈ ps.take (i + 1)) l o := by
  refine h.congr fun x hx => ?_
  rw [List.take_add_one, hs]
  simp [hno x hx]
theorem Least.ask_first {ps : List Str} {i : Nat} {s : Str} {x : Share} (ha : AscP l) (h : Least (fun x => x.proj ∈ ps.take i) l none) (hs : ps[i]? = some s) (hx : x ∈ l) (he : x.proj = s) : Least (fun x => x.proj ∈ ps.take (i + 1)) l (some x) := by
  rw [List.take_add_one, hs]
  refine ⟨hx, by simp [he], fun y hy hq => ?_⟩
  rcases List.mem_append.1 hq with hq | hq
  · exact absurd hq (h y hy)
  · have e : y = x := asc_inj ha hy hx (by simpa [he] using hq)
    rw [e]; exact bef_irrefl _
theorem Least.ask_keep {ps : List Str} {i : Nat} {s : Str} {x b : Share} (ha : AscP l) (h : Least (fun x => x.proj ∈ ps.take i) l (some b)) (hs : ps[i]? = some s) (hx : x ∈ l) (he : x.proj = s) (hb : befB x b = false) : Least (fun x => x.proj ∈ ps.take (i + 1)) l (some b) := by
  rw [List.take_add_one, hs]
  refine ⟨h.1, List.mem_append_left _ h.2.1, fun y hy hq => ?_⟩
  rcases List.mem_append.1 hq with hq | hq
  · exact h.2.2 y hy hq
  · have e : y = x := asc_inj ha hy hx (by simpa [he] using hq)
    rw [e]; exact hb
theorem Least.ask_turn {ps : List Str} {i : Nat} {s : Str} {x b : Share} (ha : AscP l) (hok : ∀ y ∈ l, okS y = true) (h : Least (fun x => x.proj ∈ ps.take i) l (some b)) (hs : ps[i]? = some s) (hx : x ∈ l) (he : x.proj = s) (hb : befB x b = true) : Least (fun x => x.proj ∈ ps.take (i + 1)) l (some x) := by
  rw [List.take_add_one, hs]
  refine ⟨hx, by simp [he], fun y hy hq => ?_⟩
  rcases List.mem_append.1 hq with hq | hq
  · exact bef_ntrans (hok y hy) (hok b h.1) (hok x hx) (h.2.2 y hy hq) (bef_asymm hb)
  · have e : y = x := asc_inj ha hy hx (by simpa [he] using hq)
    rw [e]; exact bef_irrefl _
end Go.Proofs.YtopicpghhpkgbaaDoor
