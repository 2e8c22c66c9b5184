/-
  The walks of the arithmetic layer: Scale, of the reference.
-/
import Derived.Test.YtebpdoehjgkkcaaWalks6
import Derived.Deep.DeepCutAuto

namespace Go.Proofs.Ytebpdoehjgkkcaa
open Go.RowKit

/-- The product behind i doublings: what stays, and what has gone out. -/
def eV (P : Int) (i : Nat) : Int := P * 2 ^ i % 340282366920938463463374607431768211456
def eT (P : Int) (i : Nat) : Int := P * 2 ^ i / 340282366920938463463374607431768211456
def eR (P d : Int) (i : Nat) : Int := eT P i % d
def eQ (P d : Int) (i : Nat) : Int := eT P i / d
def eB (P : Int) (i : Nat) : Int := eV P i / 170141183460469231731687303715884105728

theorem eV_bd (P : Int) (i : Nat) : 0 ≤ eV P i ∧ eV P i ≤ 340282366920938463463374607431768211455 := by unfold eV; omega
theorem eB_bd (P : Int) (i : Nat) : 0 ≤ eB P i ∧ eB P i ≤ 1 := by have := eV_bd P i; unfold eB; omega
theorem e_succ (P : Int) (i : Nat) : eV P (i + 1) = 2 * eV P i % 340282366920938463463374607431768211456 ∧ eT P (i + 1) = 2 * eT P i + eB P i := by
  unfold eB eV eT
  rw [Int.pow_succ, ← Int.mul_assoc]
  omega

theorem e_step {P d : Int} {i : Nat} (hd : 1 ≤ d) :
    (d ≤ eR P d i * 2 + eB P i → eR P d (i + 1) = eR P d i * 2 + eB P i - d ∧ eQ P d (i + 1) = 2 * eQ P d i + 1) ∧
    (eR P d i * 2 + eB P i < d → eR P d (i + 1) = eR P d i * 2 + eB P i ∧ eQ P d (i + 1) = 2 * eQ P d i) := by
  obtain ⟨b1, b2⟩ := eB_bd P i
  have r1 : 0 ≤ eR P d i := Int.emod_nonneg _ (by omega)
  have r2 : eR P d i < d := Int.emod_lt_of_pos _ (by omega)
  have hx : d * eQ P d i + eR P d i = eT P i := Int.mul_ediv_add_emod _ _
  have hr : eR P d (i + 1) = eT P (i + 1) % d := rfl
  have hq : eQ P d (i + 1) = eT P (i + 1) / d := rfl
  rw [hr, hq, (e_succ P i).2]
  generalize eQ P d i = q at *
  constructor
  · intro ht
    have e2 : 2 * eT P i + eB P i = (eR P d i * 2 + eB P i - d) + d * (2 * q + 1) := by
      rw [Int.mul_add, Int.mul_left_comm, ← hx]; omega
    rw [e2, Int.add_mul_ediv_left _ _ (by omega), Int.add_mul_emod_self_left, Int.emod_eq_of_lt (by omega) (by omega), Int.ediv_eq_zero_of_lt (by omega) (by omega)]
    omega
  · intro ht
    have e2 : 2 * eT P i + eB P i = (eR P d i * 2 + eB P i) + d * (2 * q) := by
      rw [Int.mul_left_comm, ← hx]; omega
    rw [e2, Int.add_mul_ediv_left _ _ (by omega), Int.add_mul_emod_self_left, Int.emod_eq_of_lt (by omega) (by omega), Int.ediv_eq_zero_of_lt (by omega) (by omega)]
    omega

theorem eT_le {P : Int} {i : Nat} (hP : 0 ≤ P) (hP2 : P ≤ 85070591730234615865843651857942052864) (hi : i ≤ 128) : 0 ≤ eT P i ∧ eT P i ≤ 85070591730234615865843651857942052864 := by
  have hp := two_pow i
  have hle : (2 : Int) ^ i ≤ 340282366920938463463374607431768211456 := by
    have h := Nat.pow_le_pow_right (show 0 < 2 by decide) hi
    have e : (2 : Nat) ^ 128 = 340282366920938463463374607431768211456 := by rfl
    rw [e] at h
    have := Int.ofNat_le.2 h
    simpa using this
  have h1 := Int.mul_nonneg hP (Int.le_of_lt hp)
  have h2 := Int.mul_le_mul_of_nonneg_left hle hP
  unfold eT
  omega
theorem eQ_le {P d : Int} {i : Nat} (hd : 1 ≤ d) (hP : 0 ≤ P) (hP2 : P ≤ 85070591730234615865843651857942052864) (hi : i ≤ 128) : 0 ≤ eQ P d i ∧ eQ P d i ≤ 85070591730234615865843651857942052864 := by
  obtain ⟨h1, h2⟩ := eT_le hP hP2 hi
  have := Int.ediv_le_self d h1
  exact ⟨Int.ediv_nonneg h1 (by omega), Int.le_trans this h2⟩
theorem eT_end (P : Int) : eT P 128 = P := by
  unfold eT
  rw [show (2 : Int) ^ 128 = 340282366920938463463374607431768211456 from rfl]
  omega
theorem eT_zero {P : Int} (hP : 0 ≤ P) (hP2 : P ≤ 85070591730234615865843651857942052864) : eT P 0 = 0 ∧ eV P 0 = P := by
  unfold eT eV
  rw [show (2 : Int) ^ 0 = 1 from rfl]
  omega

set_option maxRecDepth 100000 in
set_option maxHeartbeats 1600000 in
theorem rscale_any (n m d : Int) (n1 : -9223372036854775808 ≤ n) (n2 : n ≤ 9223372036854775807) (m1 : -9223372036854775808 ≤ m) (m2 : m ≤ 9223372036854775807)
    (d1 : -9223372036854775808 ≤ d) (d2 : d ≤ 9223372036854775807) (w : World) :
    Calls Try.prog 14 #[.int .i64 n, .int .i64 m, .int .i64 d] w fun e w' => e = .returned (scV n m d) ∧ Below w.heap.size w w' := by
  by_cases hd : d = 0
  · subst hd
    go_enter Try.func14, Try.ntmps14
    go_wp2_with fail
    go_ret2
    exact ⟨rfl, (by repeat (first | (with_reducible exact Below.refl _ _) | (with_reducible refine Below.drew ?_) | ((with_reducible refine Below.alloc ?_ ?_ _); rotate_left; focus ((try simp) <;> omega)) | ((with_reducible refine Below.setCell ?_ ?_ _); rotate_left; focus ((try simp) <;> omega)) | ((with_reducible refine Below.trans ?_ (Below.mono (by assumption) ?_)); rotate_left; focus ((try simp) <;> omega))))⟩
  · have hd' : (d == 0) = false := by simpa using hd
    obtain ⟨z1, z2⟩ := sz_bd d1 d2
    have z3 : 1 ≤ sz d := by unfold sz; split <;> omega
    obtain ⟨l1, l2⟩ := pL_bd n m
    have p1 := pP_nn n m
    have p2 := pP_hi n1 n2 m1 m2
    go_enter Try.func14, Try.ntmps14
    go_upto_region 5 with (first
      | (go_at_call 30; go_must (refine (rsize_any _ (by assumption) (by assumption) _).mono ?_; rintro e w2 ⟨rfl, rfl⟩))
      | (go_at_call 26; go_must (refine (rmul_any _ _ (by assumption) (by assumption) (by assumption) (by assumption) _).mono ?_; rintro e w1 ⟨rfl, hb1⟩; unfold rV; have hz1 := hb1.size; (try simp at hz1))))
    go_cut [10] (fun s10 wx => s10 = .pointer (some ⟨w1.heap.size + 1, 0, none⟩) ∧ wx = ((w1.alloc (.cells #[.bool (pN n m), .int .u64 (pH n m), .int .u64 (pL n m)] 52)).alloc (.cells #[.bool (sN n m d), .int .u64 (0 : Int), .int .u64 (0 : Int)] 52)))
    case first =>
      by_cases hP : pP n m = 0
      · have a1 : (pH n m != 0) = false := by unfold pH; rw [hP]; simp
        have a2 : (pL n m != 0) = false := by unfold pL; rw [hP]; simp
        have hN : sN n m d = false := by unfold sN; simp [hP]
        replace hP := Lib.hid hP
        rcases hp : pN n m with _ | _ <;> rcases hs : decide (d < 0) with _ | _
        all_goals (go_wp2_with fail; go_meet; exact ⟨rfl, by rw [hN, hp]⟩)
      · rcases hp : pN n m with _ | _ <;> rcases hs : decide (d < 0) with _ | _
        · have hN : sN n m d = false := by unfold sN; simp [hp, hs]
          go_wp2_with fail; go_meet; exact ⟨rfl, by rw [hN, hp]⟩
        · have hN : sN n m d = true := by unfold sN; simp [hp, hs, hP]
          rcases a1 : (pH n m != 0) with _ | _
          · have a2 : (pL n m != 0) = true := by
              have b1 : pH n m = 0 := by simpa using a1
              unfold pH at b1
              unfold pL
              simp
              omega
            go_wp2_with fail; go_meet; exact ⟨rfl, by rw [hN, hp]⟩
          · go_wp2_with fail; go_meet; exact ⟨rfl, by rw [hN, hp]⟩
        · have hN : sN n m d = true := by unfold sN; simp [hp, hs, hP]
          rcases a1 : (pH n m != 0) with _ | _
          · have a2 : (pL n m != 0) = true := by
              have b1 : pH n m = 0 := by simpa using a1
              unfold pH at b1
              unfold pL
              simp
              omega
            go_wp2_with fail; go_meet; exact ⟨rfl, by rw [hN, hp]⟩
          · go_wp2_with fail; go_meet; exact ⟨rfl, by rw [hN, hp]⟩
        · have hN : sN n m d = false := by unfold sN; simp [hp, hs]
          go_wp2_with fail; go_meet; exact ⟨rfl, by rw [hN, hp]⟩
    case rest =>
      obtain ⟨rfl, rfl⟩ := hcut
      obtain ⟨P, hPe⟩ : ∃ P, pP n m = P := ⟨_, rfl⟩
      obtain ⟨D, hDe⟩ : ∃ D, sz d = D := ⟨_, rfl⟩
      rw [hDe] at z1 z2 z3
      rw [hPe] at p1 p2
      have e0 : pH n m = P / 18446744073709551616 := by unfold pH; rw [hPe]
      have e1 : pL n m = P % 18446744073709551616 := by unfold pL; rw [hPe]
      rw [e0, e1, hDe]
      clear l1 l2 e0 e1
      replace hPe := Lib.hid hPe
      replace hDe := Lib.hid hDe
      go_wp2_with fail
      go_loopw [11, 12] (fun rv iv wr => ∃ i : Nat, i ≤ 128 ∧ iv = .int .i64 (i : Int) ∧ rv = .int .u64 (eR P D i) ∧ wr = ((w1.alloc (.cells #[.bool (pN n m), .int .u64 (eV P i / 18446744073709551616), .int .u64 (eV P i % 18446744073709551616)] 52)).alloc (.cells #[.bool (sN n m d), .int .u64 (eQ P D i / 18446744073709551616), .int .u64 (eQ P D i % 18446744073709551616)] 52))) (fun _ iv _ => 128 - (intOf iv).toNat)
      case atStart =>
        obtain ⟨t1, t2⟩ := eT_zero p1 p2
        refine ⟨0, by omega, rfl, ?_, ?_⟩
        · unfold eR; rw [t1]; simp
        · rw [t2]; unfold eQ; rw [t1]; simp
      case round =>
        obtain ⟨i, hi, rfl, rfl, rfl⟩ := hrel
        by_cases hlt : i < 128
        · obtain ⟨q1, q2⟩ := eQ_le z3 p1 p2 hi
          obtain ⟨v1, v2⟩ := eV_bd P i
          obtain ⟨b1, b2⟩ := eB_bd P i
          have r1 : 0 ≤ eR P D i := Int.emod_nonneg _ (by omega)
          have r2 : eR P D i < D := Int.emod_lt_of_pos _ (by omega)
          obtain ⟨s1, s2⟩ := e_step (P := P) (d := D) (i := i) z3
          have sv := (e_succ P i).1
          have hb : eV P i / 18446744073709551616 / 9223372036854775808 = eB P i := by unfold eB; omega
          obtain ⟨hv, hhv⟩ : ∃ x, eV P i / 18446744073709551616 = x := ⟨_, rfl⟩
          obtain ⟨lv, hlv⟩ : ∃ x, eV P i % 18446744073709551616 = x := ⟨_, rfl⟩
          obtain ⟨qh, hqh⟩ : ∃ x, eQ P D i / 18446744073709551616 = x := ⟨_, rfl⟩
          obtain ⟨ql, hql⟩ : ∃ x, eQ P D i % 18446744073709551616 = x := ⟨_, rfl⟩
          obtain ⟨h2, hh2⟩ : ∃ x, hv * 2 % 18446744073709551616 = x := ⟨_, rfl⟩
          obtain ⟨l2, hl2⟩ : ∃ x, lv * 2 % 18446744073709551616 = x := ⟨_, rfl⟩
          obtain ⟨k2, hk2⟩ : ∃ x, ql * 2 % 18446744073709551616 = x := ⟨_, rfl⟩
          have y1 : eV P (i + 1) / 18446744073709551616 = h2 + lv / 9223372036854775808 := by rw [sv]; omega
          have y2 : eV P (i + 1) % 18446744073709551616 = l2 := by rw [sv]; omega
          have w1' : 0 ≤ h2 := by omega
          have w2' : h2 ≤ 18446744073709551614 := by omega
          have w3' : 0 ≤ lv := by omega
          have w4' : lv ≤ 18446744073709551615 := by omega
          have w5' : 0 ≤ qh := by omega
          have w6' : qh ≤ 9223372036854775807 := by omega
          have w7' : 0 ≤ ql := by omega
          have w8' : ql ≤ 18446744073709551615 := by omega
          have w9' : 0 ≤ k2 := by omega
          have w10' : k2 ≤ 18446744073709551614 := by omega
          have x1 : IntKind.u64.wrap (hv * 2) = h2 := by rw [wrap_u64, hh2]
          have x2 : IntKind.u64.wrap (lv * 2) = l2 := by rw [wrap_u64, hl2]
          have x3 : IntKind.u64.wrap (ql * 2) = k2 := by rw [wrap_u64, hk2]
          have z4 : (2 * eQ P D i + 1) / 18446744073709551616 = qh * 2 + ql / 9223372036854775808 := by omega
          have z5 : (2 * eQ P D i + 1) % 18446744073709551616 = k2 + 1 := by omega
          have z6 : (2 * eQ P D i) / 18446744073709551616 = qh * 2 + ql / 9223372036854775808 := by omega
          have z7 : (2 * eQ P D i) % 18446744073709551616 = k2 := by omega
          have htop : decide (9223372036854775808 ≤ eR P D i) = false := by simp; omega
          rw [hhv] at hb
          rw [hhv, hlv, hqh, hql]
          clear hhv hlv hqh hql hh2 hl2 hk2 sv v1 v2 q1 q2
          replace s1 := Lib.hid s1
          replace s2 := Lib.hid s2
          replace y1 := Lib.hid y1
          replace y2 := Lib.hid y2
          replace z4 := Lib.hid z4
          replace z5 := Lib.hid z5
          replace z6 := Lib.hid z6
          replace z7 := Lib.hid z7
          by_cases ht : D ≤ eR P D i * 2 + eB P i
          · go_wp2_with fail
            go_roundw
            case rel => exact ⟨i + 1, by omega, by go_num, by rw [(s1.out ht).1], by rw [(s1.out ht).2, y1.out, y2.out, z4.out, z5.out]⟩
            case measure => simp [intOf]; omega
          · go_wp2_with fail
            go_roundw
            case rel => exact ⟨i + 1, by omega, by go_num, by rw [(s2.out (by omega)).1], by rw [(s2.out (by omega)).2, y1.out, y2.out, z6.out, z7.out]⟩
            case measure => simp [intOf]; omega
        · obtain rfl : i = 128 := by omega
          have eq : eQ P D 128 = pP n m / sz d := by unfold eQ; rw [eT_end, hPe.out, hDe.out]
          have er : eR P D 128 = pP n m % sz d := by unfold eR; rw [eT_end, hPe.out, hDe.out]
          obtain ⟨q1, q2⟩ := eQ_le (i := 128) z3 p1 p2 (by omega)
          obtain ⟨q, hq⟩ : ∃ q, pP n m / sz d = q := ⟨_, rfl⟩
          rw [eq, hq] at q1 q2
          rw [eq, er, hq]
          replace hq := Lib.hid hq
          clear eq er
          obtain ⟨hv, hhv⟩ : ∃ x, eV P 128 / 18446744073709551616 = x := ⟨_, rfl⟩
          obtain ⟨lv, hlv⟩ : ∃ x, eV P 128 % 18446744073709551616 = x := ⟨_, rfl⟩
          rw [hhv, hlv]
          clear hhv hlv
          rcases hN : sN n m d with _ | _
          · have hQ : sQ n m d = q := by unfold sQ; rw [hN, if_neg (by simp), hq.out]
            rcases hb : nrB false (q / 18446744073709551616) (q % 18446744073709551616) with _ | _
            · have hE := Lib.hid (scV_no hd hN hQ hb)
              go_wp2_with (first | (go_at_call 31; go_must (refine (rnarrow_any _ _ _ (by omega) (by omega) _).mono ?_; rintro e w5 ⟨rfl, hb5⟩; unfold nrV; have hz5 := hb5.size; (try simp at hz5))))
              go_ret2
              exact ⟨by rw [hE.out]; rfl, (by repeat (first | (with_reducible exact Below.refl _ _) | (with_reducible refine Below.drew ?_) | ((with_reducible refine Below.alloc ?_ ?_ _); rotate_left; focus ((try simp) <;> omega)) | ((with_reducible refine Below.setCell ?_ ?_ _); rotate_left; focus ((try simp) <;> omega)) | ((with_reducible refine Below.trans ?_ (Below.mono (by assumption) ?_)); rotate_left; focus ((try simp) <;> omega))))⟩
            · have hE := Lib.hid (scV_ok hd hN hQ hb)
              go_wp2_with (first | (go_at_call 31; go_must (refine (rnarrow_any _ _ _ (by omega) (by omega) _).mono ?_; rintro e w5 ⟨rfl, hb5⟩; unfold nrV; have hz5 := hb5.size; (try simp at hz5))))
              go_ret2
              exact ⟨by rw [hE.out]; rfl, (by repeat (first | (with_reducible exact Below.refl _ _) | (with_reducible refine Below.drew ?_) | ((with_reducible refine Below.alloc ?_ ?_ _); rotate_left; focus ((try simp) <;> omega)) | ((with_reducible refine Below.setCell ?_ ?_ _); rotate_left; focus ((try simp) <;> omega)) | ((with_reducible refine Below.trans ?_ (Below.mono (by assumption) ?_)); rotate_left; focus ((try simp) <;> omega))))⟩
          · rcases hr : (pP n m % sz d != 0) with _ | _
            · have hQ : sQ n m d = q := by unfold sQ; rw [hN, if_neg (by simp_all), hq.out]
              rcases hb : nrB true (q / 18446744073709551616) (q % 18446744073709551616) with _ | _
              · have hE := Lib.hid (scV_no hd hN hQ hb)
                go_wp2_with (first | (go_at_call 31; go_must (refine (rnarrow_any _ _ _ (by omega) (by omega) _).mono ?_; rintro e w5 ⟨rfl, hb5⟩; unfold nrV; have hz5 := hb5.size; (try simp at hz5))))
                go_ret2
                exact ⟨by rw [hE.out]; rfl, (by repeat (first | (with_reducible exact Below.refl _ _) | (with_reducible refine Below.drew ?_) | ((with_reducible refine Below.alloc ?_ ?_ _); rotate_left; focus ((try simp) <;> omega)) | ((with_reducible refine Below.setCell ?_ ?_ _); rotate_left; focus ((try simp) <;> omega)) | ((with_reducible refine Below.trans ?_ (Below.mono (by assumption) ?_)); rotate_left; focus ((try simp) <;> omega))))⟩
              · have hE := Lib.hid (scV_ok hd hN hQ hb)
                go_wp2_with (first | (go_at_call 31; go_must (refine (rnarrow_any _ _ _ (by omega) (by omega) _).mono ?_; rintro e w5 ⟨rfl, hb5⟩; unfold nrV; have hz5 := hb5.size; (try simp at hz5))))
                go_ret2
                exact ⟨by rw [hE.out]; rfl, (by repeat (first | (with_reducible exact Below.refl _ _) | (with_reducible refine Below.drew ?_) | ((with_reducible refine Below.alloc ?_ ?_ _); rotate_left; focus ((try simp) <;> omega)) | ((with_reducible refine Below.setCell ?_ ?_ _); rotate_left; focus ((try simp) <;> omega)) | ((with_reducible refine Below.trans ?_ (Below.mono (by assumption) ?_)); rotate_left; focus ((try simp) <;> omega))))⟩
            · have hQ : sQ n m d = q + 1 := by unfold sQ; rw [hN, if_pos (by simp_all), hq.out]
              by_cases hmax : q % 18446744073709551616 = 18446744073709551615
              · have x1 : IntKind.u64.wrap (q % 18446744073709551616 + 1) = 0 := by rw [wrap_u64]; omega
                have x2 : IntKind.u64.wrap (q / 18446744073709551616 + 1) = q / 18446744073709551616 + 1 := by rw [wrap_u64]; omega
                have y1 : (q + 1) / 18446744073709551616 = q / 18446744073709551616 + 1 := by omega
                have y2 : (q + 1) % 18446744073709551616 = 0 := by omega
                replace hmax := Lib.hid hmax
                rcases hb : nrB true ((q + 1) / 18446744073709551616) ((q + 1) % 18446744073709551616) with _ | _
                · have hE := Lib.hid (scV_no hd hN hQ hb)
                  rw [y1, y2] at hb
                  replace y1 := Lib.hid y1
                  replace y2 := Lib.hid y2
                  go_wp2_with (first | (go_at_call 31; go_must (refine (rnarrow_any _ _ _ (by omega) (by omega) _).mono ?_; rintro e w5 ⟨rfl, hb5⟩; unfold nrV; have hz5 := hb5.size; (try simp at hz5))))
                  go_ret2
                  exact ⟨by rw [hE.out]; rfl, (by repeat (first | (with_reducible exact Below.refl _ _) | (with_reducible refine Below.drew ?_) | ((with_reducible refine Below.alloc ?_ ?_ _); rotate_left; focus ((try simp) <;> omega)) | ((with_reducible refine Below.setCell ?_ ?_ _); rotate_left; focus ((try simp) <;> omega)) | ((with_reducible refine Below.trans ?_ (Below.mono (by assumption) ?_)); rotate_left; focus ((try simp) <;> omega))))⟩
                · have hE := scV_ok hd hN hQ hb
                  rw [y1, y2] at hb hE
                  replace hE := Lib.hid hE
                  replace y1 := Lib.hid y1
                  replace y2 := Lib.hid y2
                  go_wp2_with (first | (go_at_call 31; go_must (refine (rnarrow_any _ _ _ (by omega) (by omega) _).mono ?_; rintro e w5 ⟨rfl, hb5⟩; unfold nrV; have hz5 := hb5.size; (try simp at hz5))))
                  go_ret2
                  exact ⟨by rw [hE.out]; rfl, (by repeat (first | (with_reducible exact Below.refl _ _) | (with_reducible refine Below.drew ?_) | ((with_reducible refine Below.alloc ?_ ?_ _); rotate_left; focus ((try simp) <;> omega)) | ((with_reducible refine Below.setCell ?_ ?_ _); rotate_left; focus ((try simp) <;> omega)) | ((with_reducible refine Below.trans ?_ (Below.mono (by assumption) ?_)); rotate_left; focus ((try simp) <;> omega))))⟩
              · have x1 : IntKind.u64.wrap (q % 18446744073709551616 + 1) = q % 18446744073709551616 + 1 := by rw [wrap_u64]; omega
                have y1 : (q + 1) / 18446744073709551616 = q / 18446744073709551616 := by omega
                have y2 : (q + 1) % 18446744073709551616 = q % 18446744073709551616 + 1 := by omega
                have x3 : (q % 18446744073709551616 + 1 == 0) = false := by simp; omega
                rcases hb : nrB true ((q + 1) / 18446744073709551616) ((q + 1) % 18446744073709551616) with _ | _
                · have hE := Lib.hid (scV_no hd hN hQ hb)
                  rw [y1, y2] at hb
                  replace y1 := Lib.hid y1
                  replace y2 := Lib.hid y2
                  go_wp2_with (first | (go_at_call 31; go_must (refine (rnarrow_any _ _ _ (by omega) (by omega) _).mono ?_; rintro e w5 ⟨rfl, hb5⟩; unfold nrV; have hz5 := hb5.size; (try simp at hz5))))
                  go_ret2
                  exact ⟨by rw [hE.out]; rfl, (by repeat (first | (with_reducible exact Below.refl _ _) | (with_reducible refine Below.drew ?_) | ((with_reducible refine Below.alloc ?_ ?_ _); rotate_left; focus ((try simp) <;> omega)) | ((with_reducible refine Below.setCell ?_ ?_ _); rotate_left; focus ((try simp) <;> omega)) | ((with_reducible refine Below.trans ?_ (Below.mono (by assumption) ?_)); rotate_left; focus ((try simp) <;> omega))))⟩
                · have hE := scV_ok hd hN hQ hb
                  rw [y1, y2] at hb hE
                  replace hE := Lib.hid hE
                  replace y1 := Lib.hid y1
                  replace y2 := Lib.hid y2
                  go_wp2_with (first | (go_at_call 31; go_must (refine (rnarrow_any _ _ _ (by omega) (by omega) _).mono ?_; rintro e w5 ⟨rfl, hb5⟩; unfold nrV; have hz5 := hb5.size; (try simp at hz5))))
                  go_ret2
                  exact ⟨by rw [hE.out]; rfl, (by repeat (first | (with_reducible exact Below.refl _ _) | (with_reducible refine Below.drew ?_) | ((with_reducible refine Below.alloc ?_ ?_ _); rotate_left; focus ((try simp) <;> omega)) | ((with_reducible refine Below.setCell ?_ ?_ _); rotate_left; focus ((try simp) <;> omega)) | ((with_reducible refine Below.trans ?_ (Below.mono (by assumption) ?_)); rotate_left; focus ((try simp) <;> omega))))⟩

end Go.Proofs.Ytebpdoehjgkkcaa
