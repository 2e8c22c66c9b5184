/-
  The walks of the arithmetic layer: Less, of the program and of the reference.
-/
import Derived.Test.YtopicpghhpkgbaaDoorNuma2
import Derived.Deep.RegionHeld3
import Derived.Deep.DrawnRows


namespace Go.Proofs.YtopicpghhpkgbaaDoor.Num
open Go.RowKit

theorem signed (a b : Int) : a * b = if pN a b = true then -(pP a b) else pP a b := by
  have e : (pN a b = true) = (¬ (a < 0 ↔ b < 0) ∧ pP a b ≠ 0) := by unfold pN; simp
  simp only [e]
  have hx : pP a b = if (a < 0 ↔ b < 0) then a * b else -(a * b) := by
    unfold pP sz
    by_cases h1 : a < 0 <;> by_cases h2 : b < 0 <;> simp [h1, h2, Int.neg_mul, Int.mul_neg]
  by_cases h : a < 0 ↔ b < 0
  · rw [if_pos h] at hx
    rw [if_neg (fun hh => hh.1 h), hx]
  · rw [if_neg h] at hx
    by_cases h0 : pP a b = 0
    · rw [if_neg (fun hh => hh.2 h0)]; omega
    · rw [if_pos ⟨h, h0⟩]; omega

theorem pP_nn (a b : Int) : 0 ≤ pP a b := by
  unfold pP sz
  refine Int.mul_nonneg ?_ ?_ <;> split <;> omega

def ltB (a b c d : Int) : Bool := decide (a * b < c * d)

theorem lsB_eq (a b c d : Int) : lsB (pN a b) (pH a b) (pL a b) (pN c d) (pH c d) (pL c d) = ltB a b c d := by
  have s1 := signed a b
  have s2 := signed c d
  have n1 := pP_nn a b
  have n2 := pP_nn c d
  have z1 : pN a b = true → pP a b ≠ 0 := by unfold pN; simp
  have z2 : pN c d = true → pP c d ≠ 0 := by unfold pN; simp
  unfold lsB ltB smB pH pL
  rw [s1, s2]
  generalize pP a b = x at *
  generalize pP c d = y at *
  rcases h1 : pN a b with _ | _ <;> rcases h2 : pN c d with _ | _ <;> rw [Bool.eq_iff_iff] <;> simp [h1, h2] at * <;> omega

set_option maxHeartbeats 400000 in
theorem Less_any (a b c d : Int) (a1 : -9223372036854775808 ≤ a) (a2 : a ≤ 9223372036854775807) (b1 : -9223372036854775808 ≤ b) (b2 : b ≤ 9223372036854775807)
    (c1 : -9223372036854775808 ≤ c) (c2 : c ≤ 9223372036854775807) (d1 : -9223372036854775808 ≤ d) (d2 : d ≤ 9223372036854775807) (w : World) :
    Calls Tryd.prog 49 #[.int .i64 a, .int .i64 b, .int .i64 c, .int .i64 d] w fun e w' => e = .returned (.bool (ltB a b c d)) ∧ Bel w.heap.size w w' := by
  go_enter Tryd.func49, Tryd.ntmps49
  go_wp2_with (first | (go_at_call 66; go_must (refine (mul_any _ _ (by assumption) (by assumption) (by assumption) (by assumption) _).mono ?_; rintro e w1 ⟨rfl, hb1⟩; unfold pV; have hz1 := hb1.size; (try simp at hz1))) | (go_at_call 67; go_must (refine (less_any _ _ _ _ _ _ _).mono ?_; rintro e w2 ⟨rfl, hb2⟩; rw [lsB_eq])))
  go_ret
  exact ⟨rfl, (by repeat (first | (with_reducible exact Bel.refl _ _) | (with_reducible refine Bel.drew ?_) | (with_reducible refine Bel.drewN ?_ _) | ((with_reducible refine Bel.alloc ?_ ?_ _); rotate_left; focus ((try simp) <;> omega)) | ((with_reducible refine Bel.setCell ?_ ?_ _); rotate_left; focus ((try simp) <;> omega)) | ((with_reducible refine Bel.trans ?_ (Bel.mono (by assumption) ?_)); rotate_left; focus ((try simp) <;> omega))))⟩

set_option maxHeartbeats 400000 in
theorem rLess_any (a b c d : Int) (a1 : -9223372036854775808 ≤ a) (a2 : a ≤ 9223372036854775807) (b1 : -9223372036854775808 ≤ b) (b2 : b ≤ 9223372036854775807)
    (c1 : -9223372036854775808 ≤ c) (c2 : c ≤ 9223372036854775807) (d1 : -9223372036854775808 ≤ d) (d2 : d ≤ 9223372036854775807) (w : World) :
    Calls Tryd.prog 40 #[.int .i64 a, .int .i64 b, .int .i64 c, .int .i64 d] w fun e w' => e = .returned (.bool (ltB a b c d)) ∧ Below w.heap.size w w' := by
  go_enter Tryd.func40, Tryd.ntmps40
  go_wp2_with (first | (go_at_call 59; go_must (refine (rmul_any _ _ (by assumption) (by assumption) (by assumption) (by assumption) _).mono ?_; rintro e w1 ⟨rfl, hb1⟩; unfold rV; have hz1 := hb1.size; (try simp at hz1))) | (go_at_call 58; go_must (refine (rless_any _ _ _ _ _ _ _).mono ?_; rintro e w2 ⟨rfl, hb2⟩; rw [lsB_eq])))
  go_ret
  exact ⟨rfl, (by repeat (first | (with_reducible exact Below.refl _ _) | (with_reducible refine Below.drew ?_) | ((with_reducible refine Below.alloc ?_ ?_ _); rotate_left; focus ((try simp) <;> omega)) | ((with_reducible refine Below.setCell ?_ ?_ _); rotate_left; focus ((try simp) <;> omega)) | ((with_reducible refine Below.trans ?_ (Below.mono (by assumption) ?_)); rotate_left; focus ((try simp) <;> omega))))⟩
end Go.Proofs.YtopicpghhpkgbaaDoor.Num
