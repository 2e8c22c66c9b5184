/-
  The walk of the arithmetic layer's examples: they answer true.
-/
import Derived.Test.YtebpdoehjgkkcaaWalks8

namespace Go.Proofs.Ytebpdoehjgkkcaa
open Go.RowKit

theorem ex_s1 : scV (-7) 1 2 = .tuple #[.int .i64 (-4), .int .i64 0] := by
  unfold scV; rw [show scI (-7) 1 2 = -4 by decide +kernel, show scE (-7) 1 2 = 0 by decide +kernel]
theorem ex_s2 : scV 7 3 (-2) = .tuple #[.int .i64 (-11), .int .i64 0] := by
  unfold scV; rw [show scI 7 3 (-2) = -11 by decide +kernel, show scE 7 3 (-2) = 0 by decide +kernel]
theorem ex_l1 : ltB 6 7 2 22 = true := by decide
theorem ex_l2 : ltB 6 7 2 21 = false := by decide
/-- Two numbers. -/
def pT (a b : Int) : Nat → Int := fun i => if i = 0 then a else b
theorem ex_g : gI (pT 12 (-18)) 2 = 6 := by decide +kernel

theorem ints2 {a b : Int} {t : Nat} (w : World) (a1 : -9223372036854775808 ≤ a) (a2 : a ≤ 9223372036854775807) (b1 : -9223372036854775808 ≤ b) (b2 : b ≤ 9223372036854775807) :
    IntsAt (w.alloc (.cells #[.int .i64 a, .int .i64 b] t)) (some ⟨w.heap.size, 0, none⟩) 2 (pT a b) := by
  refine ⟨fun i hi => ?_, fun _ => ⟨_, _, rfl, fun i hi => ?_⟩⟩
  · unfold pT; split <;> omega
  · match i, hi with
    | 0, _ => simp [pT]
    | 1, _ => simp [pT]

set_option maxHeartbeats 2000000 in
theorem lives_any (w : World) :
    Calls Try.prog 12 #[] w fun e w' => e = .returned (.bool true) ∧ Below w.heap.size w w' := by
  go_enter Try.func12, Try.ntmps12
  go_wp2_with fail
  refine (scale_any (-7) 1 2 (by omega) (by omega) (by omega) (by omega) (by omega) (by omega) _).mono ?_
  rintro e w1 ⟨rfl, hb1⟩
  rw [ex_s1]
  have hz1 := hb1.size
  try simp at hz1
  go_wp2_with fail
  refine (scale_any 7 3 (-2) (by omega) (by omega) (by omega) (by omega) (by omega) (by omega) _).mono ?_
  rintro e w2 ⟨rfl, hb2⟩
  rw [ex_s2]
  have hz2 := hb2.size
  try simp at hz2
  go_wp2_with fail
  refine (Less_any 6 7 2 22 (by omega) (by omega) (by omega) (by omega) (by omega) (by omega) (by omega) (by omega) _).mono ?_
  rintro e w3 ⟨rfl, hb3⟩
  rw [ex_l1]
  have hz3 := hb3.size
  try simp at hz3
  go_wp2_with fail
  refine (Less_any 6 7 2 21 (by omega) (by omega) (by omega) (by omega) (by omega) (by omega) (by omega) (by omega) _).mono ?_
  rintro e w4 ⟨rfl, hb4⟩
  rw [ex_l2]
  have hz4 := hb4.size
  try simp at hz4
  go_wp2_with fail
  refine (gcd_any _ 2 2 (pT 12 (-18)) _ (by omega) (ints2 w4 (by omega) (by omega) (by omega) (by omega))).mono ?_
  rintro e w5 ⟨rfl, hb5⟩
  rw [ex_g]
  have hz5 := hb5.size
  try simp at hz5
  go_wp2_with fail
  go_ret
  exact ⟨rfl, (by repeat (first | (with_reducible exact Below.refl _ _) | (with_reducible refine Below.drew ?_) | ((with_reducible refine Below.alloc ?_ ?_ _); rotate_left; focus ((try simp) <;> omega)) | ((with_reducible refine Below.setCell ?_ ?_ _); rotate_left; focus ((try simp) <;> omega)) | ((with_reducible refine Below.trans ?_ (Below.mono (by assumption) ?_)); rotate_left; focus ((try simp) <;> omega))))⟩
end Go.Proofs.Ytebpdoehjgkkcaa
