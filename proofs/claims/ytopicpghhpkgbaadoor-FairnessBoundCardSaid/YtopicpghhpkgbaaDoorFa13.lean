/-
  Plain laws of fairness: what a new project begins with.
-/
import Derived.Test.YtopicpghhpkgbaaDoorFa12
namespace Go.Proofs.YtopicpghhpkgbaaDoor
open Go.RowKit
variable {l : List Share} {p : Str}

theorem les_irrefl (x : Share) : lesS x x = false := by rw [les_no]; omega
theorem les_asymm {x y : Share} (h : lesS x y = true) : lesS y x = false := by rw [les_no]; rw [les_iff] at h; omega
theorem les_ntrans {x y z : Share} (hx : okS x = true) (hy : okS y = true) (hz : okS z = true) (h1 : lesS x y = false) (h2 : lesS y z = false) : lesS x z = false := by
  obtain ⟨rx, _⟩ := okS_range hx
  obtain ⟨ry, _⟩ := okS_range hy
  obtain ⟨rz, _⟩ := okS_range hz
  rw [les_no] at h1 h2 ⊢
  exact ratio_le (by omega) (by omega : 0 < y.weight.1) (by omega) h2 h1
theorem mnK_min (hok : ∀ x ∈ l, okS x = true) : ∀ k, k < l.length → ∀ j y, j ≤ k → l[j]? = some y → lesS y (mnK lesS l k) = false
  | 0, _, j, y, hj, hy => by
    obtain rfl : j = 0 := by omega
    rw [mnK, get_bang hy]; exact les_irrefl _
  | k + 1, h, j, y, hj, hy => by
    obtain ⟨x, hx⟩ := get_some h
    have hmo := hok _ (mnK_mem (f := lesS) k (by omega : k < l.length))
    have hxo := hok x (List.mem_of_getElem? hx)
    rcases hf : lesS x (mnK lesS l k) with _ | _
    · rw [mnK_keep hx hf]
      rcases Nat.lt_or_eq_of_le hj with h1 | rfl
      · exact mnK_min hok k (by omega) j y (by omega) hy
      · rw [hx] at hy
        obtain rfl : x = y := by simpa using hy
        exact hf
    · rw [mnK_take hx hf]
      rcases Nat.lt_or_eq_of_le hj with h1 | rfl
      · exact les_ntrans (hok y (List.mem_of_getElem? hy)) hmo hxo (mnK_min hok k (by omega) j y (by omega) hy) (les_asymm hf)
      · rw [hx] at hy
        obtain rfl : x = y := by simpa using hy
        exact les_irrefl _
/-- Rounded up. -/
theorem sca_ceil {x : Share} {wt : Int} (h : okS x = true) : x.served.1 * wt ≤ scaS x wt * x.weight.1 ∧ (scaS x wt - 1) * x.weight.1 < x.served.1 * wt := by
  obtain ⟨r1, _⟩ := okS_range h
  have e := Int.mul_ediv_add_emod (x.served.1 * wt + x.weight.1 - 1) x.weight.1
  have e1 := Int.emod_nonneg (x.served.1 * wt + x.weight.1 - 1) (show x.weight.1 ≠ 0 by omega)
  have e2 := Int.emod_lt_of_pos (x.served.1 * wt + x.weight.1 - 1) (show 0 < x.weight.1 by omega)
  have hs : scaS x wt = (x.served.1 * wt + x.weight.1 - 1) / x.weight.1 := rfl
  rw [← hs, Int.mul_comm] at e
  rw [Int.sub_mul, Int.one_mul]
  omega

/-- What holds of a new project. -/
theorem joins_plain {wt : I64} (hv : validS l = true) (hf : findP p l = -1) (hE : addE l p wt.1 = 0) :
    ∃ (k : Nat) (V : I64), k < (addL l p wt).length ∧ (addL l p wt).length = l.length + 1 ∧ (addL l p wt)[k]? = some ⟨p, wt, V⟩ ∧ findP p (addL l p wt) = k ∧ 0 ≤ V.1 ∧ (l.length = 0 → V.1 = 0) ∧
      (∀ Z : I64, Z.1 = V.1 - 1 → ∀ x ∈ l, lesS ⟨p, wt, Z⟩ x = true) ∧ (0 < l.length → ∃ (j : Nat) (x : Share), l[j]? = some x ∧ lesS ⟨p, wt, V⟩ x = false) := by
  have hwt : 1 ≤ wt.1 ∧ wt.1 ≤ 1000 := by
    unfold addE at hE
    rw [if_neg (by rw [hv]; decide)] at hE
    split at hE
    · omega
    · split at hE
      · omega
      · omega
  have hr := addV_range (l := l) (p := p) hv hwt.1 hwt.2
  obtain ⟨V, hV⟩ := as_i64 (n := addV l p wt.1) (by omega)
  have hle := plK_le p l
  have hL := add_no (V := V) (k := plK p l) hE hf rfl hV
  have hk : (addL l p wt)[plK p l]? = some ⟨p, wt, V⟩ := by
    rw [hL, List.getElem?_append_right (by rw [List.length_take]; omega), List.length_take, Nat.min_eq_left hle]; simp
  have hno : ∀ x ∈ l, isProj p x = false := fun x hx => by
    rw [← Bool.not_eq_true]
    intro h
    have : l.findIdx (isProj p) < l.length := List.findIdx_lt_length.2 ⟨x, hx, h⟩
    unfold findP at hf
    rw [if_pos this] at hf
    omega
  have hlen : (addL l p wt).length = l.length + 1 := by rw [hL]; simp; omega
  have hav : addV l p wt.1 = if l.length = 0 then 0 else scaS (mnK lesS l (l.length - 1)) wt.1 := by unfold addV; rw [if_pos (by omega)]
  rw [hV] at hav hr
  refine ⟨plK p l, V, by omega, hlen, hk, findP_at ?_ hk (isProj_iff.2 rfl), hr.1, fun h0 => by rw [hav, if_pos h0], fun Z hZ x hx => ?_, fun h0 => ?_⟩
  · rw [hL, List.take_append_of_le_length (by rw [List.length_take]; omega), List.take_take, Nat.min_self, List.all_eq_true]
    intro y hy
    rw [hno y (List.mem_of_mem_take hy)]; rfl
  · have h0 : l.length ≠ 0 := by
      intro h
      rw [List.eq_nil_of_length_eq_zero h] at hx; simp at hx
    rw [if_neg h0] at hav
    have hmo := valid_ok hv (mnK_mem (f := lesS) (l.length - 1) (by omega : l.length - 1 < l.length))
    obtain ⟨j, hj⟩ := List.getElem?_of_mem hx
    have hmin := mnK_min (fun x hx => valid_ok hv hx) (l.length - 1) (by omega) j x (by have := (List.getElem?_eq_some_iff.1 hj).1; omega) hj
    have hc := (sca_ceil (wt := wt.1) hmo).2
    obtain ⟨rm, _⟩ := okS_range hmo
    obtain ⟨rx, _⟩ := okS_range (valid_ok hv hx)
    rw [les_no] at hmin
    rw [les_iff]
    show Z.1 * x.weight.1 < x.served.1 * wt.1
    rw [hZ, hav]
    exact ratio_lt (by omega) (by omega : 0 < (mnK lesS l (l.length - 1)).weight.1) (by omega) (Or.inl ⟨hc, hmin⟩)
  · obtain ⟨j, _, hj⟩ := mnK_idx (l := l) lesS (l.length - 1) (by omega)
    rw [if_neg (by omega)] at hav
    refine ⟨j, _, hj, ?_⟩
    have hmo := valid_ok hv (List.mem_of_getElem? hj)
    rw [les_no]
    show _ * wt.1 ≤ V.1 * _
    rw [hav]
    exact (sca_ceil hmo).1
end Go.Proofs.YtopicpghhpkgbaaDoor
