/-
  The walks of the arithmetic layer: sizes and products.
-/
import Derived.Test.YtddepmelnemniaaDoorRows
import Derived.Test.YtddepmelnemniaaDoorBase1
import Derived.WalkKit
import Derived.WalkSpells
import Derived.WalkLawsBesides
import Derived.Lib.Hide
import Derived.Laws.BitsAllLaws
import Derived.Laws.StructEq


namespace Go.Proofs.YtddepmelnemniaaDoor.Num
open Go.RowKit

theorem ret_int {k : IntKind} {a b : Int} (h : a = b) : Ending.returned (.int k a) = .returned (.int k b) := by rw [h]
theorem ret_bool {a b : Bool} (h : a = b) : Ending.returned (.bool a) = .returned (.bool b) := by rw [h]

/-- A number without its sign. -/
def sz (n : Int) : Int := if n < 0 then -n else n
theorem sz_bd {n : Int} (h1 : -9223372036854775808 ≤ n) (h2 : n ≤ 9223372036854775807) : 0 ≤ sz n ∧ sz n ≤ 9223372036854775808 := by
  unfold sz; split <;> omega

theorem wrap_u64 (n : Int) : IntKind.u64.wrap n = n % 18446744073709551616 := by
  simp [IntKind.wrap, IntKind.signed, IntKind.bits]

set_option maxHeartbeats 400000 in
theorem size_any (n : Int) (h1 : -9223372036854775808 ≤ n) (h2 : n ≤ 9223372036854775807) (w : World) :
    Calls Tryd.prog 29 #[.int .i64 n] w fun e w' => e = .returned (.int .u64 (sz n)) ∧ w = w' := by
  go_enter Tryd.func29, Tryd.ntmps29
  go_wp2
  all_goals
    go_ret
    refine ⟨ret_int ?_, rfl⟩
    unfold sz
  · rw [if_pos ‹_›, wrap_u64, wrap_u64]
    omega
  · rw [if_neg (by omega)]

theorem ofInt_nat (x : Int) : (BitVec.ofInt 64 x).toNat = (x % 18446744073709551616).toNat := by
  simp [BitVec.toNat_ofInt]
theorem and32 (x : Int) : bits BinOp.and IntKind.u64 x 4294967295 = x % 4294967296 := by
  have h := u64_and_nat (x % 18446744073709551616).toNat 4294967295 (by omega) (by omega)
  have ex : BitVec.ofInt 64 x = BitVec.ofInt 64 ((x % 18446744073709551616).toNat : Int) := by
    apply BitVec.eq_of_toNat_eq
    rw [ofInt_nat, ofInt_nat]
    omega
  have e : bits BinOp.and IntKind.u64 x 4294967295 = bits BinOp.and IntKind.u64 ((x % 18446744073709551616).toNat : Int) ((4294967295 : Nat) : Int) :=
    congrArg (fun b : BitVec 64 => IntKind.u64.wrap ((b &&& BitVec.ofInt 64 4294967295).toNat : Int)) ex
  rw [e, h, show (4294967295 : Nat) = 2 ^ 32 - 1 from rfl, Nat.and_two_pow_sub_one_eq_mod]
  omega
theorem or32 (c l : Int) : bits BinOp.or IntKind.u64 (IntKind.u64.wrap (c * 4294967296)) (l % 4294967296) = (c % 4294967296) * 4294967296 + l % 4294967296 := by
  have hw : IntKind.u64.wrap (c * 4294967296) = (((c % 4294967296).toNat * 2 ^ 32 : Nat) : Int) := by
    rw [IntKind.wrap_u64]; omega
  have hl : l % 4294967296 = (((l % 4294967296).toNat : Nat) : Int) := by omega
  rw [hw, hl, u64_or_nat _ _ (by omega) (by omega), ← Nat.shiftLeft_eq, ← Nat.shiftLeft_add_eq_or_of_lt (by omega), Nat.shiftLeft_eq]
  omega
attribute [local go_sem] and32 or32

/-- Two pairs of halves are one. -/
def eqH (a b c d : Int) : Bool := decide (a = c ∧ b = d)
theorem neq_half (w : World) (a b c d : Int) : (binOp .neq 65 (.agg #[.int .u64 a, .int .u64 b]) (.agg #[.int .u64 c, .int .u64 d])).run Tryd.prog w = .ok (.bool (!eqH a b c d)) w := by
  have hsz : ∀ w, (sizeOf 37).run Tryd.prog w = .ok 1 w := fun w => by kernel_rfl
  unfold eqH
  rw [run_neq_struct]
  rw [show (10000 : Nat) = 9998 + 2 from rfl, Op.equalIn]
  simp only [Sem.run_bind, run_underlying Tryd.underlying65, Result.andThen_ok, hsz, Std.Legacy.Range.forIn_eq_forIn_range', Std.Legacy.Range.size]
  simp [part, isAgg, run_underlying Tryd.underlying37, List.range', run_equalIn_int _ _ _ _ _ _ _ Tryd.underlying37]
  by_cases h1 : a = c <;> by_cases h2 : b = d <;> simp [h1, h2]
attribute [local go_sem ↓] neq_half

/-- A product of two numbers below 2^32. -/
theorem prod32 {x y : Int} (h1 : 0 ≤ x) (h2 : x ≤ 4294967295) (h3 : 0 ≤ y) (h4 : y ≤ 4294967295) : 0 ≤ x * y ∧ x * y ≤ 18446744065119617025 :=
  ⟨Int.mul_nonneg h1 h3, by have := Int.mul_le_mul h2 h4 h3 (by omega); omega⟩

/-- The product of the sizes; its halves; whether the product is negative. -/
def pP (a b : Int) : Int := sz a * sz b
def pH (a b : Int) : Int := pP a b / 18446744073709551616
def pL (a b : Int) : Int := pP a b % 18446744073709551616
def pN (a b : Int) : Bool := decide (¬ (a < 0 ↔ b < 0)) && decide (pP a b ≠ 0)
def pV (a b : Int) : Value := .agg #[.int .u64 (pH a b), .int .u64 (pL a b), .bool (pN a b)]

theorem halves {x y xh xl yh yl : Int} (h1 : x / 4294967296 = xh) (h2 : x % 4294967296 = xl) (h3 : y / 4294967296 = yh) (h4 : y % 4294967296 = yl) :
    xh * yh + (xh * yl + xl * yl / 4294967296) / 4294967296 + (xl * yh + (xh * yl + xl * yl / 4294967296) % 4294967296) / 4294967296 = x * y / 18446744073709551616 ∧
      (xl * yh + (xh * yl + xl * yl / 4294967296)) % 4294967296 * 4294967296 + xl * yl % 4294967296 = x * y % 18446744073709551616 := by
  have e : x * y = (xh * yh) * 18446744073709551616 + (xh * yl + xl * yh) * 4294967296 + xl * yl := by
    have ex : x = xh * 4294967296 + xl := by omega
    have ey : y = yh * 4294967296 + yl := by omega
    have t1 : xh * 4294967296 * (yh * 4294967296) = (xh * yh) * 18446744073709551616 := by
      rw [Int.mul_assoc, Int.mul_left_comm 4294967296 yh, ← Int.mul_assoc]
      omega
    have t2 : xh * 4294967296 * yl = (xh * yl) * 4294967296 := Int.mul_right_comm _ _ _
    have t3 : xl * (yh * 4294967296) = (xl * yh) * 4294967296 := (Int.mul_assoc _ _ _).symm
    conv => lhs; rw [ex, ey]
    rw [Int.add_mul, Int.mul_add, Int.mul_add, t1, t2, t3]
    omega
  rw [e]
  constructor <;> omega

set_option maxHeartbeats 400000 in
theorem mul_any (a b : Int) (ha : -9223372036854775808 ≤ a) (ha2 : a ≤ 9223372036854775807) (hb : -9223372036854775808 ≤ b) (hb2 : b ≤ 9223372036854775807) (w : World) :
    Calls Tryd.prog 27 #[.int .i64 a, .int .i64 b] w fun e w' => e = .returned (pV a b) ∧ Bel w.heap.size w w' := by
  obtain ⟨x1, x2⟩ := sz_bd ha ha2
  obtain ⟨y1, y2⟩ := sz_bd hb hb2
  obtain ⟨xh, hxh⟩ : ∃ xh, sz a / 4294967296 = xh := ⟨_, rfl⟩
  obtain ⟨xl, hxl⟩ : ∃ xl, sz a % 4294967296 = xl := ⟨_, rfl⟩
  obtain ⟨yh, hyh⟩ : ∃ yh, sz b / 4294967296 = yh := ⟨_, rfl⟩
  obtain ⟨yl, hyl⟩ : ∃ yl, sz b % 4294967296 = yl := ⟨_, rfl⟩
  obtain ⟨p1, p2⟩ := prod32 (x := xl) (y := yl) (by omega) (by omega) (by omega) (by omega)
  obtain ⟨q1, q2⟩ := prod32 (x := xh) (y := yl) (by omega) (by omega) (by omega) (by omega)
  obtain ⟨r1, r2⟩ := prod32 (x := xl) (y := yh) (by omega) (by omega) (by omega) (by omega)
  obtain ⟨s1, s2⟩ := prod32 (x := xh) (y := yh) (by omega) (by omega) (by omega) (by omega)
  have hh := Lib.hid (halves hxh hxl hyh hyl)
  have hp : 0 ≤ pP a b := Int.mul_nonneg x1 y1
  by_cases hs : a < 0 ↔ b < 0
  · have hN := Lib.hid (show pN a b = false by unfold pN; simp [hs])
    go_enter Tryd.func27, Tryd.ntmps27
    go_wp2_with (first | (go_at_call 29; go_must (refine (size_any _ (by assumption) (by assumption) _).mono ?_; rintro e w' ⟨rfl, rfl⟩)))
    refine bodyPost_ret (v := .agg #[.int .u64 (xh * yh + (xh * yl + xl * yl / 4294967296) / 4294967296 + (xl * yh + (xh * yl + xl * yl / 4294967296) % 4294967296) / 4294967296), .int .u64 ((xl * yh + (xh * yl + xl * yl / 4294967296)) % 4294967296 * 4294967296 + xl * yl % 4294967296), .bool false]) (by simp [results, Tryd.results27, go_sem]) rfl ⟨?_, (by repeat (first | (with_reducible exact Bel.refl _ _) | (with_reducible refine Bel.drew ?_) | (with_reducible refine Bel.drewN ?_ _) | ((with_reducible refine Bel.alloc ?_ ?_ _); rotate_left; focus ((try simp) <;> omega)) | ((with_reducible refine Bel.setCell ?_ ?_ _); rotate_left; focus ((try simp) <;> omega)) | ((with_reducible refine Bel.trans ?_ (Bel.mono (by assumption) ?_)); rotate_left; focus ((try simp) <;> omega))))⟩
    rw [hh.out.1, hh.out.2]
    unfold pV
    rw [hN.out]
    rfl
  · go_enter Tryd.func27, Tryd.ntmps27
    go_wp2_with (first | (go_at_call 29; go_must (refine (size_any _ (by assumption) (by assumption) _).mono ?_; rintro e w' ⟨rfl, rfl⟩)))
    refine bodyPost_ret (v := .agg #[.int .u64 (xh * yh + (xh * yl + xl * yl / 4294967296) / 4294967296 + (xl * yh + (xh * yl + xl * yl / 4294967296) % 4294967296) / 4294967296), .int .u64 ((xl * yh + (xh * yl + xl * yl / 4294967296)) % 4294967296 * 4294967296 + xl * yl % 4294967296), .bool (!eqH (xh * yh + (xh * yl + xl * yl / 4294967296) / 4294967296 + (xl * yh + (xh * yl + xl * yl / 4294967296) % 4294967296) / 4294967296) ((xl * yh + (xh * yl + xl * yl / 4294967296)) % 4294967296 * 4294967296 + xl * yl % 4294967296) 0 0)]) (by simp [results, Tryd.results27, go_sem, hs]) rfl ⟨?_, (by repeat (first | (with_reducible exact Bel.refl _ _) | (with_reducible refine Bel.drew ?_) | (with_reducible refine Bel.drewN ?_ _) | ((with_reducible refine Bel.alloc ?_ ?_ _); rotate_left; focus ((try simp) <;> omega)) | ((with_reducible refine Bel.setCell ?_ ?_ _); rotate_left; focus ((try simp) <;> omega)) | ((with_reducible refine Bel.trans ?_ (Bel.mono (by assumption) ?_)); rotate_left; focus ((try simp) <;> omega))))⟩
    rw [hh.out.1, hh.out.2]
    unfold pV
    have hn : pN a b = !eqH (sz a * sz b / 18446744073709551616) (sz a * sz b % 18446744073709551616) 0 0 := by
      unfold pN eqH
      rw [Bool.eq_iff_iff]
      simp only [Bool.and_eq_true, decide_eq_true_eq, Bool.not_eq_true', decide_eq_false_iff_not]
      unfold pP at hp ⊢
      constructor
      · intro h; omega
      · intro h; exact ⟨hs, by omega⟩
    rw [hn]
    rfl
end Go.Proofs.YtddepmelnemniaaDoor.Num
