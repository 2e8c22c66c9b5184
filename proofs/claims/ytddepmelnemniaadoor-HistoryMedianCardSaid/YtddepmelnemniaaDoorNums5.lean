/-
  The walks of the arithmetic layer: the long division, of the program.
-/
import Derived.Test.YtddepmelnemniaaDoorNums5p
import Derived.Deep.RegionHeld3
import Derived.Deep.DeepCutAuto

namespace Go.Proofs.YtddepmelnemniaaDoor.Num
open Go.RowKit
attribute [local go_sem ↓] neq_half

theorem dX_zero {r x : Int} (hx : 0 ≤ x) (hx2 : x ≤ 18446744073709551615) : dX r x 0 = r := by
  unfold dX
  rw [show x / 2 ^ (64 - 0) = 0 from Int.ediv_eq_zero_of_lt hx (by omega)]
  omega
theorem dX_end (r x : Int) : dX r x 64 = r * 18446744073709551616 + x := by
  unfold dX
  rw [show (2 : Int) ^ (64 - 64) = 1 from rfl, Int.ediv_one]
  rfl

/-- The state of the division after i bits. -/
def sR (h l d : Int) (i : Nat) : Int := if i < 64 then dR 0 h d i else dR (h % d) l d (i - 64)
def sH (h d : Int) (i : Nat) : Int := if i < 64 then dQ 0 h d i else h / d
def sL (h l d : Int) (i : Nat) : Int := if i < 64 then 0 else dQ (h % d) l d (i - 64)

theorem set_h {w : World} (a b v : Value) (m g : Nat) (hg : g = w.heap.size) : ((w.alloc (.cells #[a, b] 65)).drewN m).setCell ⟨g, 0, none⟩ v = (w.alloc (.cells #[v, b] 65)).drewN m := by
  have e : ((w.alloc (.cells #[a, b] 65)).drewN m).setCell ⟨g, 0, none⟩ v = ((w.alloc (.cells #[a, b] 65)).setCell ⟨g, 0, none⟩ v).drewN m := rfl
  rw [e, World.setCell_alloc_at _ _ _ _ _ hg]
  rfl
theorem set_l {w : World} (a b v : Value) (m g : Nat) (hg : g = w.heap.size) : ((w.alloc (.cells #[a, b] 65)).drewN m).setCell ⟨g, 1, none⟩ v = (w.alloc (.cells #[a, v] 65)).drewN m := by
  have e : ((w.alloc (.cells #[a, b] 65)).drewN m).setCell ⟨g, 1, none⟩ v = ((w.alloc (.cells #[a, b] 65)).setCell ⟨g, 1, none⟩ v).drewN m := rfl
  rw [e, World.setCell_alloc_at _ _ _ _ _ hg]
  rfl

theorem sR_a {h l d : Int} {i : Nat} (_ : 0 ≤ h) (_ : h ≤ 18446744073709551615) (hl : 0 ≤ l) (hl2 : l ≤ 18446744073709551615) (hd : 1 ≤ d) (hi : i ≤ 64) : sR h l d i = dR 0 h d i ∧ sH h d i = dQ 0 h d i ∧ sL h l d i = 0 := by
  unfold sR sH sL
  by_cases e : i < 64
  · rw [if_pos e, if_pos e, if_pos e]; exact ⟨rfl, rfl, rfl⟩
  · obtain rfl : i = 64 := by omega
    rw [if_neg e, if_neg e, if_neg e]
    unfold dR dQ
    rw [dX_zero hl hl2, dX_end]
    refine ⟨by simp, by simp, ?_⟩
    rw [Int.ediv_eq_zero_of_lt (Int.emod_nonneg _ (by omega)) (Int.emod_lt_of_pos _ (by omega))]
    simp
theorem sR_b {h l d : Int} {i j : Nat} (hi : i = 64 + j) : sR h l d i = dR (h % d) l d j ∧ sH h d i = h / d ∧ sL h l d i = dQ (h % d) l d j := by
  subst hi
  unfold sR sH sL
  rw [if_neg (by omega), if_neg (by omega), if_neg (by omega), show 64 + j - 64 = j by omega]
  exact ⟨rfl, rfl, rfl⟩

theorem below_drewN {B : Nat} {w w1 : World} (h : Below B w w1) (m : Nat) : Below B w (w1.drewN m) := ⟨h.os, h.tape, h.output, h.size, h.block⟩

/-- What the division leaves: the quotient's halves, and whether something remains. -/
def dvV (h l d : Int) : Value := .tuple #[.agg #[.int .u64 (h / d), .int .u64 (dQ (h % d) l d 64)], .bool (dR (h % d) l d 64 != 0)]

set_option maxRecDepth 100000 in
set_option maxHeartbeats 1600000 in
theorem divide_any (h l d : Int) (n : Bool) (h1 : 0 ≤ h) (h2 : h ≤ 18446744073709551615) (l1 : 0 ≤ l) (l2 : l ≤ 18446744073709551615) (d1 : 1 ≤ d) (d2 : d ≤ 9223372036854775808) (w : World) :
    Calls Tryd.prog 28 #[.agg #[.int .u64 h, .int .u64 l, .bool n], .int .u64 d] w fun e w' => e = .returned (dvV h l d) ∧ Below w.heap.size w w' := by
  go_enter Tryd.func28, Tryd.ntmps28
  go_wp2_with fail
  go_loopw [7, 11] (fun rv iv wr => ∃ i m : Nat, i ≤ 128 ∧ iv = .int .i64 (i : Int) ∧ rv = .int .u64 (sR h l d i) ∧ wr = ((((w.alloc (.cells #[.int .u64 h, .int .u64 l, .bool n] 67)).alloc (.cells #[.int .u64 0, .int .u64 0] 65)).alloc (.cells #[.int .u64 (sH h d i), .int .u64 (sL h l d i)] 65))).drewN m) (fun _ iv _ => 128 - (intOf iv).toNat)
  case atStart =>
    obtain ⟨r0, r1, r2⟩ := sR_a (i := 0) h1 h2 l1 l2 d1 (by omega)
    have z : dX 0 h 0 = 0 := dX_zero h1 h2
    refine ⟨0, 0, by omega, rfl, ?_, ?_⟩
    · rw [r0]; unfold dR; rw [z]; simp
    · rw [r1, r2]; unfold dQ; rw [z]; simp; rfl
  case round =>
    obtain ⟨i, m, hi, rfl, rfl, rfl⟩ := hrel
    by_cases hA : i < 64
    · have e1 : (i : Int) / 64 = 0 := by omega
      have e2 : (i : Int) % 64 = i := by omega
      obtain ⟨r0, r1, r2⟩ := sR_a (i := i) h1 h2 l1 l2 d1 (by omega)
      rw [r0, r1, r2]
      clear r0 r1 r2
      obtain ⟨b1, b2⟩ := dR_bd (r := 0) (x := h) i d1
      obtain ⟨g1, g2⟩ := dB_bd h i
      obtain ⟨s1, s2⟩ := d_step (r := 0) (x := h) (j := i) (by omega) d1
      obtain ⟨q0, q1, q2, q3⟩ := or_digit (r := 0) (x := h) (j := i) (by omega) d1 (by omega) (by omega) (by assumption) (by assumption)
      replace s1 := Lib.hid s1
      replace s2 := Lib.hid s2
      have hp := two_pow (63 - i)
      have f1 : bits BinOp.and IntKind.u64 (h / 2 ^ (63 - i)) 1 = dB h i := by
        have a1 : 0 ≤ h / 2 ^ (63 - i) := Int.ediv_nonneg (by assumption) (by omega)
        have a2 : h / 2 ^ (63 - i) ≤ h := Int.ediv_le_self _ (by assumption)
        exact and_bit a1 (by omega)
      have f2 : bits BinOp.or IntKind.u64 (dR 0 h d i * 2) (dB h i) = dR 0 h d i * 2 + dB h i := or_bit b1 (by omega) g1 g2
      have f3 : (dR 0 h d i / 9223372036854775808 == 1) = false := by simp; omega
      by_cases ht : d ≤ dR 0 h d i * 2 + dB h i
      · go_wp2_with fail
        go_region
        go_wp2_with fail
        go_roundw
        case rel =>
          obtain ⟨r0, r1, r2⟩ := sR_a (i := i + 1) h1 h2 l1 l2 d1 (by omega)
          exact ⟨i + 1, m + 1, by omega, by go_num, by rw [r0, (s1.out ht).1], by rw [r1, r2, (s1.out ht).2]; exact set_h _ _ _ _ _ (by simp)⟩
        case measure => simp [intOf]; omega
      · go_wp2_with fail
        go_roundw
        case rel =>
          obtain ⟨r0, r1, r2⟩ := sR_a (i := i + 1) h1 h2 l1 l2 d1 (by omega)
          exact ⟨i + 1, m, by omega, by go_num, by rw [r0, (s2.out (by omega)).1], by rw [r1, r2, (s2.out (by omega)).2]⟩
        case measure => simp [intOf]; omega
    · obtain ⟨j, rfl⟩ : ∃ j, i = 64 + j := ⟨i - 64, by omega⟩
      obtain ⟨r0, r1, r2⟩ := sR_b (h := h) (l := l) (d := d) (i := 64 + j) (j := j) rfl
      rw [r0, r1, r2]
      clear r0 r1 r2
      have hm1 : 0 ≤ h % d := Int.emod_nonneg _ (by omega)
      have hm2 : h % d < d := Int.emod_lt_of_pos _ (by omega)
      by_cases hB : j < 64
      · have e1 : ((64 + j : Nat) : Int) / 64 = 1 := by omega
        have e2 : ((64 + j : Nat) : Int) % 64 = j := by omega
        have e3 : (j : Int) / 64 = 0 := by omega
        have e4 : (j : Int) % 64 = j := by omega
        have e5 : j / 64 = 0 := by omega
        have e6 : j % 64 = j := by omega
        obtain ⟨b1, b2⟩ := dR_bd (r := (h % d)) (x := l) j d1
        obtain ⟨g1, g2⟩ := dB_bd l j
        obtain ⟨s1, s2⟩ := d_step (r := (h % d)) (x := l) (j := j) (by omega) d1
        obtain ⟨q0, q1, q2, q3⟩ := or_digit (r := (h % d)) (x := l) (j := j) (by omega) d1 (by omega) (by omega) (by assumption) (by assumption)
        replace s1 := Lib.hid s1
        replace s2 := Lib.hid s2
        have hp := two_pow (63 - j)
        have f1 : bits BinOp.and IntKind.u64 (l / 2 ^ (63 - j)) 1 = dB l j := by
          have a1 : 0 ≤ l / 2 ^ (63 - j) := Int.ediv_nonneg (by assumption) (by omega)
          have a2 : l / 2 ^ (63 - j) ≤ l := Int.ediv_le_self _ (by assumption)
          exact and_bit a1 (by omega)
        have f2 : bits BinOp.or IntKind.u64 (dR (h % d) l d j * 2) (dB l j) = dR (h % d) l d j * 2 + dB l j := or_bit b1 (by omega) g1 g2
        have f3 : (dR (h % d) l d j / 9223372036854775808 == 1) = false := by simp; omega
        by_cases ht : d ≤ dR (h % d) l d j * 2 + dB l j
        · go_wp2_with fail
          go_region
          go_wp2_with fail
          go_roundw
          case rel =>
            obtain ⟨r0, r1, r2⟩ := sR_b (h := h) (l := l) (d := d) (i := 64 + j + 1) (j := j + 1) (by omega)
            exact ⟨64 + j + 1, m + 1, by omega, by go_num, by rw [r0, (s1.out ht).1], by rw [r1, r2, (s1.out ht).2]; exact set_l _ _ _ _ _ (by simp)⟩
          case measure => simp [intOf]; omega
        · go_wp2_with fail
          go_roundw
          case rel =>
            obtain ⟨r0, r1, r2⟩ := sR_b (h := h) (l := l) (d := d) (i := 64 + j + 1) (j := j + 1) (by omega)
            exact ⟨64 + j + 1, m, by omega, by go_num, by rw [r0, (s2.out (by omega)).1], by rw [r1, r2, (s2.out (by omega)).2]⟩
          case measure => simp [intOf]; omega
      · obtain rfl : j = 64 := by omega
        go_wp2_with fail
        have hbm := below_drewN (show Below w.heap.size w (((w.alloc (.cells #[.int .u64 h, .int .u64 l, .bool n] 67)).alloc (.cells #[.int .u64 0, .int .u64 0] 65)).alloc (.cells #[.int .u64 (h / d), .int .u64 (dQ (h % d) l d 64)] 65)) from (by repeat (first | (with_reducible exact Below.refl _ _) | (with_reducible refine Below.drew ?_) | ((with_reducible refine Below.alloc ?_ ?_ _); rotate_left; focus ((try simp) <;> omega)) | ((with_reducible refine Below.setCell ?_ ?_ _); rotate_left; focus ((try simp) <;> omega)) | ((with_reducible refine Below.trans ?_ (Below.mono (by assumption) ?_)); rotate_left; focus ((try simp) <;> omega))))) m
        exact bodyPost_ret (v := .tuple #[.agg #[.int .u64 (h / d), .int .u64 (dQ (h % d) l d 64)], .bool (dR (h % d) l d 64 != 0)]) (by simp [results, Tryd.results28, go_sem]) rfl ⟨rfl, (by repeat (first | (with_reducible exact Below.refl _ _) | (with_reducible refine Below.drew ?_) | ((with_reducible refine Below.alloc ?_ ?_ _); rotate_left; focus ((try simp) <;> omega)) | ((with_reducible refine Below.setCell ?_ ?_ _); rotate_left; focus ((try simp) <;> omega)) | ((with_reducible refine Below.trans ?_ (Below.mono (by assumption) ?_)); rotate_left; focus ((try simp) <;> omega))))⟩
/-- The quotient and the rest of a product, as halves. -/
theorem dv_end {P d : Int} (_ : 0 ≤ P) (hd : 1 ≤ d) :
    P / 18446744073709551616 / d = P / d / 18446744073709551616 ∧ dQ (P / 18446744073709551616 % d) (P % 18446744073709551616) d 64 = P / d % 18446744073709551616 ∧ dR (P / 18446744073709551616 % d) (P % 18446744073709551616) d 64 = P % d := by
  obtain ⟨b1, b2⟩ := dX_bd (j := 64) (r := P / 18446744073709551616 % d) (x := P % 18446744073709551616) (d := d) (by omega) (Int.emod_nonneg _ (by omega)) (Int.emod_lt_of_pos _ (by omega)) (by omega) (by omega)
  unfold dQ dR
  rw [dX_end] at *
  have e : P = (P / 18446744073709551616 % d * 18446744073709551616 + P % 18446744073709551616) + d * (P / 18446744073709551616 / d * 18446744073709551616) := by
    have h1 := Int.mul_ediv_add_emod (P / 18446744073709551616) d
    generalize P / 18446744073709551616 / d = q at *
    generalize P / 18446744073709551616 % d = r at *
    rw [← Int.mul_assoc]
    omega
  have hx : (P / 18446744073709551616 % d * 18446744073709551616 + P % 18446744073709551616) / d < 18446744073709551616 := Int.ediv_lt_of_lt_mul (by omega) (by have e64 : (2 : Int) ^ 64 = 18446744073709551616 := rfl; rw [e64] at b2; omega)
  have hx0 : 0 ≤ (P / 18446744073709551616 % d * 18446744073709551616 + P % 18446744073709551616) / d := Int.ediv_nonneg b1 (by omega)
  have eq : P / d = (P / 18446744073709551616 % d * 18446744073709551616 + P % 18446744073709551616) / d + P / 18446744073709551616 / d * 18446744073709551616 := by
    conv => lhs; rw [e]
    rw [Int.add_mul_ediv_left _ _ (by omega)]
  have er : P % d = (P / 18446744073709551616 % d * 18446744073709551616 + P % 18446744073709551616) % d := by
    conv => lhs; rw [e]
    rw [Int.add_mul_emod_self_left]
  refine ⟨?_, ?_, er.symm⟩
  · rw [eq]; omega
  · rw [eq, show (2 : Int) ^ (64 - 64) = 1 from rfl]; omega
end Go.Proofs.YtddepmelnemniaaDoor.Num
