/-
  Plain laws of fairness: what valid shares are; where a project is; the smallest share; what a project that is added becomes.
-/
import Derived.Test.YtopicpghhpkgbaaDoorFa6
namespace Go.Proofs.YtopicpghhpkgbaaDoor
open Go.RowKit
variable {l : List Share} {p : Str}

theorem valid_at (h : validS l = true) {k : Nat} (hk : k < l.length) : okAt l k = true := by
  unfold validS at h
  rw [Bool.and_eq_true, List.all_eq_true] at h
  exact h.2 k (List.mem_range.2 hk)
theorem valid_len (h : validS l = true) : l.length ≤ 64 := by
  unfold validS at h
  rw [Bool.and_eq_true, decide_eq_true_eq] at h
  exact h.1
theorem valid_ok (h : validS l = true) {x : Share} (hx : x ∈ l) : okS x = true := by
  obtain ⟨k, hk⟩ := List.getElem?_of_mem hx
  have := valid_at h (List.getElem?_eq_some_iff.1 hk).1
  unfold okAt at this
  rw [get_bang hk, Bool.and_eq_true] at this
  exact this.1
theorem valid_step (h : validS l = true) {k : Nat} {x y : Share} (hx : l[k + 1]? = some x) (hy : l[k]? = some y) : cmpS y.proj x.proj < 0 := by
  have := valid_at h (List.getElem?_eq_some_iff.1 hx).1
  rw [okAt_succ hx hy, Bool.and_eq_true, decide_eq_true_eq] at this
  exact this.2
/-- Each project comes behind the ones before. -/
def AscP (l : List Share) : Prop := ∀ (i j : Nat) (x y : Share), i < j → l[i]? = some x → l[j]? = some y → cmpS x.proj y.proj < 0
theorem valid_asc (h : validS l = true) : AscP l := by
  intro i j
  induction j with
  | zero => intro x y hij; omega
  | succ j ih =>
    intro x y hij hx hy
    obtain ⟨z, hz⟩ := get_some (show j < l.length by have := (List.getElem?_eq_some_iff.1 hy).1; omega)
    have h1 := valid_step h hy hz
    by_cases e : i = j
    · subst e
      rw [hx] at hz
      obtain rfl : x = z := by simpa using hz
      exact h1
    · exact ord_str.trans _ _ _ (ih x z (by omega) hx hz) h1

theorem atP_spec (ha : AscP l) (p : Str) : atP p l ≤ l.length ∧ (∀ j y, j < atP p l → l[j]? = some y → cmpS y.proj p < 0) ∧ (∀ j y, atP p l ≤ j → l[j]? = some y → ¬ cmpS y.proj p < 0) := by
  obtain ⟨_, h2, h3, h4⟩ := bsr_spec (fun h => decide (cmpS l[h]!.proj p < 0)) l.length 0 l.length (by omega) (Nat.zero_le _) (fun c c' _ hcc hc' hq => by
    obtain ⟨x, hx⟩ := get_some (show c < l.length by omega)
    obtain ⟨y, hy⟩ := get_some hc'
    simp only [get_bang hx, get_bang hy, decide_eq_false_iff_not] at hq ⊢
    rcases Nat.lt_or_eq_of_le hcc with hlt | rfl
    · exact fun h => hq (ord_str.trans _ _ _ (ha c c' x y hlt hx hy) h)
    · rw [hx] at hy
      obtain rfl : x = y := by simpa using hy
      exact hq)
  refine ⟨h2, fun j y hj hy => ?_, fun j y hj hy => ?_⟩
  · have := h3 j (Nat.zero_le _) hj
    simpa [get_bang hy] using this
  · have := h4 j hj (List.getElem?_eq_some_iff.1 hy).1
    simpa [get_bang hy] using this
theorem isProj_iff {x : Share} : isProj p x = true ↔ x.proj = p := by unfold isProj; rw [eq_str, decide_eq_true_eq]
theorem cmp_ne {a b : Str} (h : cmpS a b < 0) : a ≠ b := fun e => by rw [(ord_str.zero a b).2 e] at h; omega

/-- Where a project is: found by both, or by neither. -/
theorem find_cases (ha : AscP l) (p : Str) : (isAt p l = true ∧ findP p l = (atP p l : Int) ∧ ∃ x, l[atP p l]? = some x ∧ x.proj = p) ∨ (isAt p l = false ∧ findP p l = -1 ∧ plK p l = atP p l ∧ atP p l ≤ l.length ∧ ∀ x ∈ l, x.proj ≠ p) := by
  obtain ⟨h1, h2, h3⟩ := atP_spec ha p
  by_cases hlt : atP p l < l.length
  · obtain ⟨x, hx⟩ := get_some hlt
    by_cases hz : cmpS x.proj p = 0
    · have hxp := (ord_str.zero _ _).1 hz
      refine Or.inl ⟨?_, ?_, x, hx, hxp⟩
      · unfold isAt; rw [get_bang hx, hz, decide_eq_true hlt]; rfl
      · refine findP_at ?_ hx (isProj_iff.2 hxp)
        rw [List.all_eq_true]
        intro y hy
        obtain ⟨j, hj⟩ := List.getElem?_of_mem hy
        rw [List.getElem?_take] at hj
        split at hj
        · rename_i hjl
          have := cmp_ne (h2 j y hjl hj)
          rw [Bool.not_eq_true', ← Bool.not_eq_true]
          exact fun e => this (isProj_iff.1 e)
        · cases hj
    · have hgt : cmpS p x.proj < 0 := by have := h3 _ x (Nat.le_refl _) hx; rw [ord_str.neg x.proj p]; omega
      have hno : ∀ y ∈ l, y.proj ≠ p := fun y hy e => by
        obtain ⟨j, hj⟩ := List.getElem?_of_mem hy
        rcases Nat.lt_trichotomy j (atP p l) with h | h | h
        · exact cmp_ne (h2 j y h hj) e
        · subst h
          rw [hx] at hj
          obtain rfl : x = y := by simpa using hj
          exact hz ((ord_str.zero _ _).2 e)
        · exact cmp_ne (ord_str.trans _ _ _ hgt (ha _ _ x y h hx hj)) e.symm
      refine Or.inr ⟨?_, ?_, ?_, h1, hno⟩
      · unfold isAt; rw [get_bang hx, decide_eq_false hz, Bool.and_false]
      · refine findP_none ?_
        rw [List.all_eq_true]
        intro y hy
        rw [Bool.not_eq_true', ← Bool.not_eq_true]
        exact fun e => hno y hy (isProj_iff.1 e)
      · exact plK_at h1 (fun j y hj hy => h2 j y hj hy) (fun y hy => h3 _ y (Nat.le_refl _) hy)
  · have hno : ∀ y ∈ l, y.proj ≠ p := fun y hy e => by
      obtain ⟨j, hj⟩ := List.getElem?_of_mem hy
      have := (List.getElem?_eq_some_iff.1 hj).1
      exact cmp_ne (h2 j y (by omega) hj) e
    refine Or.inr ⟨?_, ?_, ?_, h1, hno⟩
    · unfold isAt; rw [decide_eq_false hlt]; rfl
    · refine findP_none ?_
      rw [List.all_eq_true]
      intro y hy
      rw [Bool.not_eq_true', ← Bool.not_eq_true]
      exact fun e => hno y hy (isProj_iff.1 e)
    · exact plK_at h1 (fun j y hj hy => h2 j y hj hy) (fun y hy => h3 _ y (Nat.le_refl _) hy)

theorem mnK_idx (f : Share → Share → Bool) : ∀ k, k < l.length → ∃ j, j ≤ k ∧ l[j]? = some (mnK f l k)
  | 0, h => by
    obtain ⟨y, hy⟩ := get_some h
    exact ⟨0, Nat.le_refl _, by rw [mnK, get_bang hy]; exact hy⟩
  | k + 1, h => by
    obtain ⟨x, hx⟩ := get_some h
    rcases hf : f x (mnK f l k) with _ | _
    · obtain ⟨j, h1, h2⟩ := mnK_idx f k (by omega)
      exact ⟨j, by omega, by rw [mnK_keep hx hf]; exact h2⟩
    · exact ⟨k + 1, Nat.le_refl _, by rw [mnK_take hx hf]; exact hx⟩
theorem befB_behind {x m : Share} (h : cmpS m.proj x.proj < 0) : befB x m = lesS x m := by
  unfold befB
  rw [befS_neg, decide_eq_false (ord_str.asymm h)]; simp
/-- Among ascending projects the first of the smallest ratios is the smallest share. -/
theorem mnK_eq (ha : AscP l) : ∀ k, k < l.length → mnK befB l k = mnK lesS l k
  | 0, _ => rfl
  | k + 1, h => by
    obtain ⟨x, hx⟩ := get_some h
    obtain ⟨j, h1, h2⟩ := mnK_idx lesS k (show k < l.length by omega)
    have e := befB_behind (ha j (k + 1) _ x (by omega) h2 hx)
    rw [mnK, mnK, get_bang hx, mnK_eq ha k (by omega), e]

/-- A number as an int, where it is one. -/
def i64 (n : Int) : I64 := if h : -9223372036854775808 ≤ n ∧ n ≤ 9223372036854775807 then ⟨n, h⟩ else default
theorem i64_val {n : Int} (h : -9223372036854775808 ≤ n ∧ n ≤ 9223372036854775807) : (i64 n).1 = n := by unfold i64; rw [dif_pos h]

/-- What a project begins with, or has at another weight. -/
def addV (l : List Share) (p : Str) (wt : Int) : Int := if findP p l < 0 then (if l.length = 0 then 0 else scaS (mnK lesS l (l.length - 1)) wt) else scaS l[(findP p l).toNat]! wt
/-- The error of adding. -/
def addE (l : List Share) (p : Str) (wt : Int) : Int :=
  if validS l = false then 1 else if nameB p.1 = false then 10 else if wt < 1 ∨ wt > 1000 then 2 else if findP p l < 0 ∧ 64 ≤ l.length then 21 else if addV l p wt > 1125899906842624 then 15 else 0
/-- The shares after. -/
def addL (l : List Share) (p : Str) (wt : I64) : List Share :=
  if addE l p wt.1 ≠ 0 then l else if findP p l < 0 then l.take (plK p l) ++ ⟨p, wt, i64 (addV l p wt.1)⟩ :: l.drop (plK p l) else l.set (findP p l).toNat ⟨p, wt, i64 (addV l p wt.1)⟩
theorem sca_range {x : Share} {wt : Int} (h : okS x = true) (h1 : 1 ≤ wt) (h2 : wt ≤ 1000) : 0 ≤ scaS x wt ∧ scaS x wt ≤ 1125899906842625000 := by
  have hm := sca_mul h h1 h2
  obtain ⟨r1, r2, _, _⟩ := okS_range h
  unfold scaS
  refine ⟨Int.ediv_nonneg (by omega) (by omega), ?_⟩
  have := Int.ediv_le_self (x.weight.1) (show 0 ≤ x.served.1 * wt + x.weight.1 - 1 by omega)
  omega
theorem addV_range (h : validS l = true) {wt : Int} (h1 : 1 ≤ wt) (h2 : wt ≤ 1000) : 0 ≤ addV l p wt ∧ addV l p wt ≤ 1125899906842625000 := by
  unfold addV
  split
  · split
    · omega
    · exact sca_range (valid_ok h (mnK_mem (l.length - 1) (by omega))) h1 h2
  · rename_i hf
    rcases find_cases (valid_asc h) p with ⟨_, e, x, hx, _⟩ | ⟨_, e, _⟩
    · rw [e, Int.toNat_natCast, get_bang hx]
      exact sca_range (valid_ok h (List.mem_of_getElem? hx)) h1 h2
    · omega
/-- The error of a charge, and the shares after. -/
def chE (l : List Share) (p : Str) (co : Int) : Int :=
  if validS l = false then 1 else if co < 1 ∨ co > 1000000 then 2 else if findP p l < 0 then 8 else if l[(findP p l).toNat]!.served.1 + co > 1125899906842624 then 15 else 0
def chL (l : List Share) (p : Str) (co : Int) : List Share :=
  if chE l p co ≠ 0 then l else l.set (findP p l).toNat { l[(findP p l).toNat]! with served := i64 (l[(findP p l).toNat]!.served.1 + co) }
end Go.Proofs.YtopicpghhpkgbaaDoor
