/-
  The plain law of the long division: what is kept bit by bit.
-/
import Derived.Test.YtddepmelnemniaaDoorNums4
namespace Go.Proofs.YtddepmelnemniaaDoor.Num
open Go.RowKit

/-- What has been brought down after j bits of x, behind a rest r. -/
def dX (r x : Int) (j : Nat) : Int := r * 2 ^ j + x / 2 ^ (64 - j)
def dR (r x d : Int) (j : Nat) : Int := dX r x j % d
def dQ (r x d : Int) (j : Nat) : Int := dX r x j / d * 2 ^ (64 - j)
def dB (x : Int) (j : Nat) : Int := x / 2 ^ (63 - j) % 2

theorem two_pow (n : Nat) : (0 : Int) < 2 ^ n := Int.pow_pos (by decide)
theorem pow_s (n : Nat) : (2 : Int) ^ (n + 1) = 2 ^ n * 2 := Int.pow_succ 2 n

theorem dX_succ {r x : Int} {j : Nat} (h : j < 64) : dX r x (j + 1) = 2 * dX r x j + dB x j := by
  unfold dX dB
  have e : 64 - j = (63 - j) + 1 := by omega
  rw [show 64 - (j + 1) = 63 - j by omega, e, pow_s, pow_s, ← Int.mul_assoc]
  have hp := two_pow (63 - j)
  have hd := Int.ediv_ediv (x := x) (y := 2 ^ (63 - j)) (z := 2)
  rw [if_neg (fun hh => by omega)] at hd
  omega

theorem dB_bd (x : Int) (j : Nat) : 0 ≤ dB x j ∧ dB x j ≤ 1 := by unfold dB; omega

theorem dR_bd {r x d : Int} (j : Nat) (hd : 1 ≤ d) : 0 ≤ dR r x d j ∧ dR r x d j < d := ⟨Int.emod_nonneg _ (by omega), Int.emod_lt_of_pos _ (by omega)⟩

theorem d_step {r x d : Int} {j : Nat} (h : j < 64) (hd : 1 ≤ d) :
    (d ≤ dR r x d j * 2 + dB x j → dR r x d (j + 1) = dR r x d j * 2 + dB x j - d ∧ dQ r x d (j + 1) = dQ r x d j + 2 ^ (63 - j)) ∧
    (dR r x d j * 2 + dB x j < d → dR r x d (j + 1) = dR r x d j * 2 + dB x j ∧ dQ r x d (j + 1) = dQ r x d j) := by
  obtain ⟨b1, b2⟩ := dB_bd x j
  obtain ⟨r1, r2⟩ := dR_bd (r := r) (x := x) j hd
  have e := dX_succ (r := r) (x := x) h
  have hx : d * (dX r x j / d) + dR r x d j = dX r x j := Int.mul_ediv_add_emod _ _
  have hq : dQ r x d (j + 1) = dX r x (j + 1) / d * 2 ^ (63 - j) := by unfold dQ; rw [show 64 - (j + 1) = 63 - j by omega]
  have hq0 : dQ r x d j = dX r x j / d * (2 ^ (63 - j) * 2) := by unfold dQ; rw [show 64 - j = (63 - j) + 1 by omega, pow_s]
  have hr : dR r x d (j + 1) = dX r x (j + 1) % d := rfl
  rw [hq, hq0, hr]
  generalize dX r x j / d = q at *
  generalize (2 : Int) ^ (63 - j) = p
  constructor
  · intro ht
    have e2 : dX r x (j + 1) = (dR r x d j * 2 + dB x j - d) + d * (2 * q + 1) := by
      rw [e, Int.mul_add, Int.mul_left_comm, ← hx]; omega
    rw [e2, Int.add_mul_ediv_left _ _ (by omega), Int.add_mul_emod_self_left, Int.emod_eq_of_lt (by omega) (by omega), Int.ediv_eq_zero_of_lt (by omega) (by omega)]
    refine ⟨rfl, ?_⟩
    rw [Int.zero_add, Int.add_mul, Int.one_mul, Int.mul_comm p 2, ← Int.mul_assoc, Int.mul_comm q 2]
  · intro ht
    have e2 : dX r x (j + 1) = (dR r x d j * 2 + dB x j) + d * (2 * q) := by
      rw [e, Int.mul_left_comm, ← hx]; omega
    rw [e2, Int.add_mul_ediv_left _ _ (by omega), Int.add_mul_emod_self_left, Int.emod_eq_of_lt (by omega) (by omega), Int.ediv_eq_zero_of_lt (by omega) (by omega)]
    refine ⟨rfl, ?_⟩
    rw [Int.zero_add, Int.mul_comm p 2, ← Int.mul_assoc, Int.mul_comm q 2]

theorem dX_bd {r x d : Int} {j : Nat} (h : j ≤ 64) (hr : 0 ≤ r) (hrd : r < d) (hx : 0 ≤ x) (hx2 : x ≤ 18446744073709551615) : 0 ≤ dX r x j ∧ dX r x j < d * 2 ^ j := by
  have hp := two_pow j
  have hp2 := two_pow (64 - j)
  have hm : (2 : Int) ^ j * 2 ^ (64 - j) = 18446744073709551616 := by rw [← Int.pow_add, show j + (64 - j) = 64 by omega]; rfl
  have q1 : 0 ≤ x / 2 ^ (64 - j) := Int.ediv_nonneg hx (by omega)
  have q2 : x / 2 ^ (64 - j) < 2 ^ j := Int.ediv_lt_of_lt_mul hp2 (by rw [hm]; omega)
  have a1 := Int.mul_nonneg hr (Int.le_of_lt hp)
  have a2 : (r + 1) * 2 ^ j ≤ d * 2 ^ j := Int.mul_le_mul_of_nonneg_right (by omega) (by omega)
  rw [Int.add_mul, Int.one_mul] at a2
  unfold dX
  omega

/-- The quotient's digits that stand: a multiple of the next power, with room for the next digit. -/
theorem dQ_form {r x d : Int} {j : Nat} (h : j < 64) (hd : 1 ≤ d) (hr : 0 ≤ r) (hrd : r < d) (hx : 0 ≤ x) (hx2 : x ≤ 18446744073709551615) :
    ∃ q : Nat, dQ r x d j = ((q * 2 ^ (64 - j) : Nat) : Int) ∧ q * 2 ^ (64 - j) + 2 ^ (64 - j) ≤ 18446744073709551616 := by
  obtain ⟨b1, b2⟩ := dX_bd (j := j) (by omega) hr hrd hx hx2
  have hq0 : 0 ≤ dX r x j / d := Int.ediv_nonneg b1 (by omega)
  have hq1 : dX r x j / d < 2 ^ j := Int.ediv_lt_of_lt_mul (by omega) (by rw [Int.mul_comm]; exact b2)
  obtain ⟨q, hq⟩ := Int.eq_ofNat_of_zero_le hq0
  refine ⟨q, by unfold dQ; rw [hq]; simp, ?_⟩
  have hlt : q < 2 ^ j := by rw [hq] at hq1; exact_mod_cast hq1
  have hm : 2 ^ j * 2 ^ (64 - j) = 18446744073709551616 := by rw [← Nat.pow_add, show j + (64 - j) = 64 by omega]
  have := Nat.mul_le_mul_right (2 ^ (64 - j)) (show q + 1 ≤ 2 ^ j by omega)
  rw [hm, Nat.add_mul, Nat.one_mul] at this
  exact this

theorem or_digit {r x d : Int} {j : Nat} (h : j < 64) (hd : 1 ≤ d) (hr : 0 ≤ r) (hrd : r < d) (hx : 0 ≤ x) (hx2 : x ≤ 18446744073709551615) :
    bits BinOp.or IntKind.u64 (dQ r x d j) (2 ^ (63 - j)) = dQ r x d j + 2 ^ (63 - j) ∧ 0 ≤ dQ r x d j ∧ dQ r x d j ≤ 18446744073709551615 ∧ dQ r x d j + 2 ^ (63 - j) ≤ 18446744073709551615 := by
  obtain ⟨q, e, hb⟩ := dQ_form h hd hr hrd hx hx2
  have e2 : 2 ^ (64 - j) = 2 ^ (63 - j) * 2 := by rw [show 64 - j = (63 - j) + 1 by omega, Nat.pow_succ]
  have hp : 0 < 2 ^ (63 - j) := Nat.pow_pos (by decide)
  have hc : ((2 : Int) ^ (63 - j)) = ((2 ^ (63 - j) : Nat) : Int) := by simp
  rw [e, hc, u64_or_nat _ _ (by omega) (by omega), ← Nat.shiftLeft_eq, ← Nat.shiftLeft_add_eq_or_of_lt (by rw [e2]; omega), Nat.shiftLeft_eq]
  omega

theorem or_bit {x b : Int} (h1 : 0 ≤ x) (h2 : x ≤ 9223372036854775807) (h3 : 0 ≤ b) (h4 : b ≤ 1) : bits BinOp.or IntKind.u64 (x * 2) b = x * 2 + b := by
  obtain ⟨n, rfl⟩ := Int.eq_ofNat_of_zero_le h1
  obtain ⟨c, rfl⟩ := Int.eq_ofNat_of_zero_le h3
  have e : ((n : Int) * 2) = ((n * 2 ^ 1 : Nat) : Int) := by simp
  rw [e, u64_or_nat _ _ (by omega) (by omega), ← Nat.shiftLeft_eq, ← Nat.shiftLeft_add_eq_or_of_lt (by omega), Nat.shiftLeft_eq]
  omega

theorem and_bit {x : Int} (h1 : 0 ≤ x) (h2 : x ≤ 18446744073709551615) : bits BinOp.and IntKind.u64 x 1 = x % 2 := by
  obtain ⟨n, rfl⟩ := Int.eq_ofNat_of_zero_le h1
  have := u64_and_nat n 1 (by omega) (by omega)
  rw [show ((1 : Nat) : Int) = 1 from rfl] at this
  rw [this, Nat.and_one_is_mod]
  omega

end Go.Proofs.YtddepmelnemniaaDoor.Num
