/-
  The plain law of BudgetBounds: what was spent, and when, stays within the burst and the rate.
-/
import Derived.Test.YtalnbjcfcpkdlaaWalks8
namespace Go.Proofs.Ytalnbjcfcpkdlaa.budgetBounds
open Go.RowKit

/-- What was spent at which times (ts, cs) by a bucket of this rate and burst, which now holds L since A. -/
structure Good (r bu : Int) (ts cs : List Int) (L A : Int) : Prop where
  len : ts.length = cs.length
  time : ∀ i, i < ts.length → 0 ≤ ts.getD i 0 ∧ ts.getD i 0 ≤ A
  cost : ∀ i, i < cs.length → 0 ≤ cs.getD i 0 ∧ cs.getD i 0 ≤ 1000000
  part : ∀ i m, i + m < cs.length → 1000 * ((cs.drop i).take (m + 1)).sum ≤ 1000 * bu + r * (ts.getD (i + m) 0 - ts.getD i 0)
  rest : ∀ i, i < cs.length → 1000 * (cs.drop i).sum + L ≤ 1000 * bu + r * (A - ts.getD i 0)

theorem Good.nil (r bu L A : Int) : Good r bu [] [] L A :=
  ⟨rfl, fun i h => absurd h (by simp), fun i h => absurd h (by simp), fun i m h => absurd h (by simp), fun i h => absurd h (by simp)⟩

theorem getD_left {l : List Int} {x : Int} {i : Nat} (h : i < l.length) : (l ++ [x]).getD i 0 = l.getD i 0 := by
  simp [List.getD, List.getElem?_append_left h]
theorem getD_last {l : List Int} {x : Int} : (l ++ [x]).getD l.length 0 = x := by simp [List.getD]

theorem Good.step {r bu L A now c : Int} {ts cs : List Int} (h : Good r bu ts cs L A) (hv : Vld r bu L A) (hn : 0 ≤ now) (hA : A ≤ now) (hc : 0 ≤ c ∧ c ≤ 1000000) (hs : 1000 * c ≤ lvl r bu L A now) (hb : lvl r bu L A now ≤ 1000 * bu) :
    Good r bu (ts ++ [now]) (cs ++ [c]) (lvl r bu L A now - 1000 * c) now := by
  obtain ⟨h1, h2, h3, h4, h5, h6, h7, h8⟩ := hv
  have hl : lvl r bu L A now ≤ L + r * (now - A) := by
    have p := Int.mul_nonneg h1 (show 0 ≤ now - A by omega)
    unfold lvl
    split <;> omega
  have hrest : ∀ i, i < (cs ++ [c]).length → 1000 * ((cs ++ [c]).drop i).sum + (lvl r bu L A now - 1000 * c) ≤ 1000 * bu + r * (now - (ts ++ [now]).getD i 0) := by
    intro i hi
    by_cases hlt : i < cs.length
    · rw [getD_left (by rw [h.len]; exact hlt), List.drop_append_of_le_length (by omega), List.sum_append]
      have := h.rest i hlt
      have e : r * (now - ts.getD i 0) = r * (A - ts.getD i 0) + r * (now - A) := by rw [← Int.mul_add]; congr 1; omega
      rw [e]
      simp only [List.sum_cons, List.sum_nil]
      omega
    · have e : i = cs.length := by simp at hi; omega
      subst e
      rw [← h.len, getD_last, List.drop_append_of_le_length (by rw [h.len]; omega), h.len, List.drop_length]
      simp only [List.nil_append, List.sum_cons, List.sum_nil, Int.sub_self, Int.mul_zero]
      omega
  refine ⟨by simp [h.len], fun i hi => ?_, fun i hi => ?_, fun i m hi => ?_, hrest⟩
  · by_cases hlt : i < ts.length
    · rw [getD_left hlt]
      have := h.time i hlt
      omega
    · have e : i = ts.length := by simp at hi; omega
      subst e
      rw [getD_last]
      omega
  · by_cases hlt : i < cs.length
    · rw [getD_left hlt]
      exact h.cost i hlt
    · have e : i = cs.length := by simp at hi; omega
      subst e
      rw [getD_last]
      exact hc
  · by_cases hlt : i + m < cs.length
    · rw [getD_left (by rw [h.len]; exact hlt), getD_left (by rw [h.len]; omega), List.drop_append_of_le_length (by omega), List.take_append_of_le_length (by simp; omega)]
      exact h.part i m hlt
    · have e : i + m = cs.length := by simp at hi; omega
      have := hrest i (by simp; omega)
      rw [e, ← h.len, getD_last, List.take_of_length_le (by simp; omega)]
      omega

theorem sum_bd : ∀ {l : List Int} , (∀ i, i < l.length → 0 ≤ l.getD i 0 ∧ l.getD i 0 ≤ 1000000) → 0 ≤ l.sum ∧ l.sum ≤ 1000000 * l.length
  | [], _ => by simp
  | x :: l, h => by
    have h0 := h 0 (by simp)
    have := sum_bd (l := l) (fun i hi => by have := h (i + 1) (by simp; omega); simpa using this)
    simp only [List.getD_cons_zero] at h0
    simp only [List.sum_cons, List.length_cons]
    omega

theorem Good.sum {r bu L A : Int} {ts cs : List Int} (h : Good r bu ts cs L A) (i m : Nat) : 0 ≤ ((cs.drop i).take m).sum ∧ ((cs.drop i).take m).sum ≤ 1000000 * cs.length := by
  have := sum_bd (l := (cs.drop i).take m) (fun j hj => by
    simp at hj
    have := h.cost (i + j) (by omega)
    simp only [List.getD, List.getElem?_take, List.getElem?_drop] at this ⊢
    rw [if_pos (by omega)]
    exact this)
  have hle : ((cs.drop i).take m).length ≤ cs.length := by simp; omega
  omega

theorem take_sum {cs : List Int} {i m : Nat} (h : i + m < cs.length) : ((cs.drop i).take (m + 1)).sum = ((cs.drop i).take m).sum + cs.getD (i + m) 0 := by
  rw [List.take_succ_eq_append_getElem (by simp; omega), List.sum_append]
  simp [List.getD, List.getElem?_eq_getElem h]

end Go.Proofs.Ytalnbjcfcpkdlaa.budgetBounds
