/-
  The walks of the arithmetic layer: narrow, Add, Mul, of the program and of the reference.
-/
import Derived.Test.YtebpdoehjgkkcaaWalks3

namespace Go.Proofs.Ytebpdoehjgkkcaa
open Go.RowKit

/-- Whether a signed pair of halves is an int, and which. -/
def nrB (n : Bool) (h l : Int) : Bool := decide (h = 0 ∧ l ≤ (if n = true then 9223372036854775808 else 9223372036854775807))
def nrI (n : Bool) (h l : Int) : Int := if nrB n h l = true then (if n = true then -l else l) else 0
def nrV (n : Bool) (h l : Int) : Value := .tuple #[.int .i64 (nrI n h l), .bool (nrB n h l)]
theorem nrV_no {n : Bool} {h l : Int} (hb : nrB n h l = false) : nrV n h l = .tuple #[.int .i64 0, .bool false] := by unfold nrV nrI; rw [hb]; simp
theorem nrV_yes {n : Bool} {h l x : Int} (hb : nrB n h l = true) (hx : (if n = true then -l else l) = x) : nrV n h l = .tuple #[.int .i64 x, .bool true] := by unfold nrV nrI; rw [hb, ← hx]; simp

set_option maxHeartbeats 800000 in
theorem narrow_any (n : Bool) (h l : Int) (l1 : 0 ≤ l) (l2 : l ≤ 18446744073709551615) (w : World) :
    Calls Try.prog 29 #[.agg #[.int .u64 h, .int .u64 l, .bool n]] w fun e w' => e = .returned (nrV n h l) ∧ Below w.heap.size w w' := by
  by_cases h0 : h = 0
  · subst h0
    cases n
    · by_cases hl : l ≤ 9223372036854775807
      · have hE := Lib.hid (nrV_yes (n := false) (h := 0) (l := l) (x := l) (by unfold nrB; simp; omega) (by simp))
        go_enter Try.func29, Try.ntmps29
        go_wp2_with fail
        go_ret2
        exact ⟨by rw [hE.out]; rfl, (by repeat (first | (with_reducible exact Below.refl _ _) | (with_reducible refine Below.drew ?_) | ((with_reducible refine Below.alloc ?_ ?_ _); rotate_left; focus ((try simp) <;> omega)) | ((with_reducible refine Below.setCell ?_ ?_ _); rotate_left; focus ((try simp) <;> omega)) | ((with_reducible refine Below.trans ?_ (Below.mono (by assumption) ?_)); rotate_left; focus ((try simp) <;> omega))))⟩
      · have hE := Lib.hid (nrV_no (n := false) (h := 0) (l := l) (by unfold nrB; simp; omega))
        go_enter Try.func29, Try.ntmps29
        go_wp2_with fail
        go_ret2
        exact ⟨by rw [hE.out]; rfl, (by repeat (first | (with_reducible exact Below.refl _ _) | (with_reducible refine Below.drew ?_) | ((with_reducible refine Below.alloc ?_ ?_ _); rotate_left; focus ((try simp) <;> omega)) | ((with_reducible refine Below.setCell ?_ ?_ _); rotate_left; focus ((try simp) <;> omega)) | ((with_reducible refine Below.trans ?_ (Below.mono (by assumption) ?_)); rotate_left; focus ((try simp) <;> omega))))⟩
    · by_cases hl : l ≤ 9223372036854775808
      · have hE := Lib.hid (nrV_yes (n := true) (h := 0) (l := l) (x := -l) (by unfold nrB; simp; omega) (by simp))
        go_enter Try.func29, Try.ntmps29
        go_wp2_with fail
        go_ret2
        have hw : wrap64 (IntKind.u64.wrap (-l)) = -l := by unfold wrap64; rw [wrap_u64]; omega
        exact ⟨by rw [hE.out]; exact congrArg (fun x => Ending.returned (.tuple #[.int .i64 x, .bool true])) hw, (by repeat (first | (with_reducible exact Below.refl _ _) | (with_reducible refine Below.drew ?_) | ((with_reducible refine Below.alloc ?_ ?_ _); rotate_left; focus ((try simp) <;> omega)) | ((with_reducible refine Below.setCell ?_ ?_ _); rotate_left; focus ((try simp) <;> omega)) | ((with_reducible refine Below.trans ?_ (Below.mono (by assumption) ?_)); rotate_left; focus ((try simp) <;> omega))))⟩
      · have hE := Lib.hid (nrV_no (n := true) (h := 0) (l := l) (by unfold nrB; simp; omega))
        go_enter Try.func29, Try.ntmps29
        go_wp2_with fail
        go_ret2
        exact ⟨by rw [hE.out]; rfl, (by repeat (first | (with_reducible exact Below.refl _ _) | (with_reducible refine Below.drew ?_) | ((with_reducible refine Below.alloc ?_ ?_ _); rotate_left; focus ((try simp) <;> omega)) | ((with_reducible refine Below.setCell ?_ ?_ _); rotate_left; focus ((try simp) <;> omega)) | ((with_reducible refine Below.trans ?_ (Below.mono (by assumption) ?_)); rotate_left; focus ((try simp) <;> omega))))⟩
  · have e1 : (h != 0) = true := by simpa using h0
    have hE := Lib.hid (nrV_no (n := n) (h := h) (l := l) (by unfold nrB; simp [h0]))
    go_enter Try.func29, Try.ntmps29
    go_wp2_with fail
    go_ret2
    exact ⟨by rw [hE.out]; rfl, (by repeat (first | (with_reducible exact Below.refl _ _) | (with_reducible refine Below.drew ?_) | ((with_reducible refine Below.alloc ?_ ?_ _); rotate_left; focus ((try simp) <;> omega)) | ((with_reducible refine Below.setCell ?_ ?_ _); rotate_left; focus ((try simp) <;> omega)) | ((with_reducible refine Below.trans ?_ (Below.mono (by assumption) ?_)); rotate_left; focus ((try simp) <;> omega))))⟩

set_option maxHeartbeats 800000 in
theorem rnarrow_any (n : Bool) (h l : Int) (l1 : 0 ≤ l) (l2 : l ≤ 18446744073709551615) (w : World) :
    Calls Try.prog 31 #[.agg #[.bool n, .int .u64 h, .int .u64 l]] w fun e w' => e = .returned (nrV n h l) ∧ Below w.heap.size w w' := by
  by_cases h0 : h = 0
  · subst h0
    by_cases hbig : 9223372036854775808 < l
    · have hE := Lib.hid (nrV_no (n := n) (h := 0) (l := l) (by unfold nrB; cases n <;> simp <;> omega))
      go_enter Try.func31, Try.ntmps31
      go_wp2_with fail
      go_ret2
      exact ⟨by rw [hE.out]; rfl, (by repeat (first | (with_reducible exact Below.refl _ _) | (with_reducible refine Below.drew ?_) | ((with_reducible refine Below.alloc ?_ ?_ _); rotate_left; focus ((try simp) <;> omega)) | ((with_reducible refine Below.setCell ?_ ?_ _); rotate_left; focus ((try simp) <;> omega)) | ((with_reducible refine Below.trans ?_ (Below.mono (by assumption) ?_)); rotate_left; focus ((try simp) <;> omega))))⟩
    · by_cases he : l = 9223372036854775808
      · subst he
        cases n
        · have hE := Lib.hid (nrV_no (n := false) (h := 0) (l := 9223372036854775808) (by unfold nrB; simp))
          go_enter Try.func31, Try.ntmps31
          go_wp2_with fail
          go_ret2
          exact ⟨by rw [hE.out]; rfl, (by repeat (first | (with_reducible exact Below.refl _ _) | (with_reducible refine Below.drew ?_) | ((with_reducible refine Below.alloc ?_ ?_ _); rotate_left; focus ((try simp) <;> omega)) | ((with_reducible refine Below.setCell ?_ ?_ _); rotate_left; focus ((try simp) <;> omega)) | ((with_reducible refine Below.trans ?_ (Below.mono (by assumption) ?_)); rotate_left; focus ((try simp) <;> omega))))⟩
        · have hE := Lib.hid (nrV_yes (n := true) (h := 0) (l := 9223372036854775808) (x := -9223372036854775808) (by unfold nrB; simp) (by simp))
          go_enter Try.func31, Try.ntmps31
          go_wp2_with fail
          go_ret2
          exact ⟨by rw [hE.out]; rfl, (by repeat (first | (with_reducible exact Below.refl _ _) | (with_reducible refine Below.drew ?_) | ((with_reducible refine Below.alloc ?_ ?_ _); rotate_left; focus ((try simp) <;> omega)) | ((with_reducible refine Below.setCell ?_ ?_ _); rotate_left; focus ((try simp) <;> omega)) | ((with_reducible refine Below.trans ?_ (Below.mono (by assumption) ?_)); rotate_left; focus ((try simp) <;> omega))))⟩
      · have e2 : (l == 9223372036854775808) = false := by simpa using he
        cases n
        · have hE := Lib.hid (nrV_yes (n := false) (h := 0) (l := l) (x := l) (by unfold nrB; simp; omega) (by simp))
          go_enter Try.func31, Try.ntmps31
          go_wp2_with fail
          go_ret2
          exact ⟨by rw [hE.out]; rfl, (by repeat (first | (with_reducible exact Below.refl _ _) | (with_reducible refine Below.drew ?_) | ((with_reducible refine Below.alloc ?_ ?_ _); rotate_left; focus ((try simp) <;> omega)) | ((with_reducible refine Below.setCell ?_ ?_ _); rotate_left; focus ((try simp) <;> omega)) | ((with_reducible refine Below.trans ?_ (Below.mono (by assumption) ?_)); rotate_left; focus ((try simp) <;> omega))))⟩
        · have hE := Lib.hid (nrV_yes (n := true) (h := 0) (l := l) (x := -l) (by unfold nrB; simp; omega) (by simp))
          go_enter Try.func31, Try.ntmps31
          go_wp2_with fail
          go_ret2
          exact ⟨by rw [hE.out]; rfl, (by repeat (first | (with_reducible exact Below.refl _ _) | (with_reducible refine Below.drew ?_) | ((with_reducible refine Below.alloc ?_ ?_ _); rotate_left; focus ((try simp) <;> omega)) | ((with_reducible refine Below.setCell ?_ ?_ _); rotate_left; focus ((try simp) <;> omega)) | ((with_reducible refine Below.trans ?_ (Below.mono (by assumption) ?_)); rotate_left; focus ((try simp) <;> omega))))⟩
  · have e1 : (h != 0) = true := by simpa using h0
    have hE := Lib.hid (nrV_no (n := n) (h := h) (l := l) (by unfold nrB; simp [h0]))
    go_enter Try.func31, Try.ntmps31
    go_wp2_with fail
    go_ret2
    exact ⟨by rw [hE.out]; rfl, (by repeat (first | (with_reducible exact Below.refl _ _) | (with_reducible refine Below.drew ?_) | ((with_reducible refine Below.alloc ?_ ?_ _); rotate_left; focus ((try simp) <;> omega)) | ((with_reducible refine Below.setCell ?_ ?_ _); rotate_left; focus ((try simp) <;> omega)) | ((with_reducible refine Below.trans ?_ (Below.mono (by assumption) ?_)); rotate_left; focus ((try simp) <;> omega))))⟩

/-- The sum and the product, limited to the range of int. -/
def clamp (x : Int) : Int := if x < -9223372036854775808 then -9223372036854775808 else if 9223372036854775807 < x then 9223372036854775807 else x

set_option maxHeartbeats 400000 in
theorem end_any (n : Bool) (w : World) :
    Calls Try.prog 32 #[.bool n] w fun e w' => e = .returned (.int .i64 (if n = true then -9223372036854775808 else 9223372036854775807)) ∧ w = w' := by
  cases n
  all_goals
    go_enter Try.func32, Try.ntmps32
    go_wp2_with fail
    go_ret
    exact ⟨rfl, rfl⟩

set_option maxHeartbeats 400000 in
theorem add_any (a b : Int) (a1 : -9223372036854775808 ≤ a) (a2 : a ≤ 9223372036854775807) (b1 : -9223372036854775808 ≤ b) (b2 : b ≤ 9223372036854775807) (w : World) :
    Calls Try.prog 19 #[.int .i64 a, .int .i64 b] w fun e w' => e = .returned (.int .i64 (clamp (a + b))) ∧ w = w' := by
  have hcase : (9223372036854775807 < a + b ∧ 0 ≤ a ∧ 0 ≤ b) ∨ (a + b < -9223372036854775808 ∧ a < 0 ∧ b < 0) ∨ (-9223372036854775808 ≤ a + b ∧ a + b ≤ 9223372036854775807) := by omega
  rcases hcase with ⟨h1, h2, h3⟩ | ⟨h1, h2, h3⟩ | ⟨h1, h2⟩
  · have hw : wrap64 (a + b) = a + b - 18446744073709551616 := by unfold wrap64; omega
    have d1 : decide (a < 0) = false := by simp; omega
    have d2 : decide (b < 0) = false := by simp; omega
    have d3 : decide (a + b - 18446744073709551616 < 0) = true := by simp; omega
    go_enter Try.func19, Try.ntmps19
    go_wp2_with (first | (go_at_call 32; go_must (refine (end_any _ _).mono ?_; rintro e w1 ⟨rfl, rfl⟩)))
    go_ret
    refine ⟨ret_int ?_, rfl⟩
    unfold clamp
    rw [if_neg (by omega), if_pos h1]
    all_goals first | rfl | omega
  · have hw : wrap64 (a + b) = a + b + 18446744073709551616 := by unfold wrap64; omega
    have d1 : decide (a < 0) = true := by simp; omega
    have d2 : decide (b < 0) = true := by simp; omega
    have d3 : decide (a + b + 18446744073709551616 < 0) = false := by simp; omega
    go_enter Try.func19, Try.ntmps19
    go_wp2_with (first | (go_at_call 32; go_must (refine (end_any _ _).mono ?_; rintro e w1 ⟨rfl, rfl⟩)))
    go_ret
    refine ⟨ret_int ?_, rfl⟩
    unfold clamp
    rw [if_pos h1]
    all_goals first | rfl | omega
  · by_cases g1 : a < 0 <;> by_cases g2 : b < 0 <;> by_cases g3 : a + b < 0
    all_goals first
      | (exfalso; omega)
      | (go_enter Try.func19, Try.ntmps19
         go_wp2_with (first | (go_at_call 32; go_must (refine (end_any _ _).mono ?_; rintro e w1 ⟨rfl, rfl⟩)))
         go_ret
         refine ⟨ret_int ?_, rfl⟩
         unfold clamp
         rw [if_neg (by omega), if_neg (by omega)]
         all_goals first | rfl | omega)

set_option maxHeartbeats 400000 in
theorem radd_any (a b : Int) (a1 : -9223372036854775808 ≤ a) (a2 : a ≤ 9223372036854775807) (b1 : -9223372036854775808 ≤ b) (b2 : b ≤ 9223372036854775807) (w : World) :
    Calls Try.prog 20 #[.int .i64 a, .int .i64 b] w fun e w' => e = .returned (.int .i64 (clamp (a + b))) ∧ w = w' := by
  go_enter Try.func20, Try.ntmps20
  go_wp2_with fail
  all_goals
    go_ret
    refine ⟨ret_int ?_, rfl⟩
    unfold clamp
    repeat' split
    all_goals omega
theorem mulc (a b : Int) : clamp (a * b) = if nrB (pN a b) (pH a b) (pL a b) = true then nrI (pN a b) (pH a b) (pL a b) else if pN a b = true then -9223372036854775808 else 9223372036854775807 := by
  have s1 := signed a b
  have n1 := pP_nn a b
  have z1 : pN a b = true → pP a b ≠ 0 := by unfold pN; simp
  unfold nrI nrB clamp pH pL
  rw [s1]
  generalize pP a b = x at *
  rcases h1 : pN a b with _ | _ <;> simp [h1] at * <;> (repeat' split) <;> omega

theorem pL_bd (a b : Int) : 0 ≤ pL a b ∧ pL a b ≤ 18446744073709551615 := by unfold pL; omega

set_option maxHeartbeats 400000 in
theorem Mul_any (a b : Int) (a1 : -9223372036854775808 ≤ a) (a2 : a ≤ 9223372036854775807) (b1 : -9223372036854775808 ≤ b) (b2 : b ≤ 9223372036854775807) (w : World) :
    Calls Try.prog 21 #[.int .i64 a, .int .i64 b] w fun e w' => e = .returned (.int .i64 (clamp (a * b))) ∧ Below w.heap.size w w' := by
  have hm := Lib.hid (mulc a b)
  obtain ⟨l1, l2⟩ := pL_bd a b
  rcases hb : nrB (pN a b) (pH a b) (pL a b) with _ | _ <;> rcases hn : pN a b with _ | _
  all_goals
    go_enter Try.func21, Try.ntmps21
    rw [hn] at hb
    go_wp2_with (first
      | (go_at_call 23; go_must (refine (mul_any _ _ (by assumption) (by assumption) (by assumption) (by assumption) _).mono ?_; rintro e w1 ⟨rfl, hb1⟩; unfold pV; rw [hn]; have hz1 := hb1.size; (try simp at hz1)))
      | (go_at_call 29; go_must (refine (narrow_any _ _ _ (by assumption) (by assumption) _).mono ?_; rintro e w2 ⟨rfl, hb2⟩; unfold nrV; have hz2 := hb2.size; (try simp at hz2); obtain ⟨hc2, hf2⟩ := blk_at hb2 w1.heap.size (by (try simp) <;> omega)))
      | (go_at_call 32; go_must (refine (end_any _ _).mono ?_; rintro e w1 ⟨rfl, rfl⟩)))
    go_ret
    exact ⟨ret_int (by rw [hm.out, hn, hb]; simp), (by repeat (first | (with_reducible exact Below.refl _ _) | (with_reducible refine Below.drew ?_) | ((with_reducible refine Below.alloc ?_ ?_ _); rotate_left; focus ((try simp) <;> omega)) | ((with_reducible refine Below.setCell ?_ ?_ _); rotate_left; focus ((try simp) <;> omega)) | ((with_reducible refine Below.trans ?_ (Below.mono (by assumption) ?_)); rotate_left; focus ((try simp) <;> omega))))⟩

set_option maxHeartbeats 400000 in
theorem rMul_any (a b : Int) (a1 : -9223372036854775808 ≤ a) (a2 : a ≤ 9223372036854775807) (b1 : -9223372036854775808 ≤ b) (b2 : b ≤ 9223372036854775807) (w : World) :
    Calls Try.prog 22 #[.int .i64 a, .int .i64 b] w fun e w' => e = .returned (.int .i64 (clamp (a * b))) ∧ Below w.heap.size w w' := by
  have hm := Lib.hid (mulc a b)
  obtain ⟨l1, l2⟩ := pL_bd a b
  rcases hb : nrB (pN a b) (pH a b) (pL a b) with _ | _ <;> rcases hn : pN a b with _ | _
  all_goals
    go_enter Try.func22, Try.ntmps22
    rw [hn] at hb
    go_wp2_with (first
      | (go_at_call 26; go_must (refine (rmul_any _ _ (by assumption) (by assumption) (by assumption) (by assumption) _).mono ?_; rintro e w1 ⟨rfl, hb1⟩; unfold rV; rw [hn]; have hz1 := hb1.size; (try simp at hz1)))
      | (go_at_call 31; go_must (refine (rnarrow_any _ _ _ (by assumption) (by assumption) _).mono ?_; rintro e w2 ⟨rfl, hb2⟩; unfold nrV; have hz2 := hb2.size; (try simp at hz2); obtain ⟨hc2, hf2⟩ := blk_at hb2 w1.heap.size (by (try simp) <;> omega))))
    go_ret
    exact ⟨ret_int (by rw [hm.out, hn, hb]; simp), (by repeat (first | (with_reducible exact Below.refl _ _) | (with_reducible refine Below.drew ?_) | ((with_reducible refine Below.alloc ?_ ?_ _); rotate_left; focus ((try simp) <;> omega)) | ((with_reducible refine Below.setCell ?_ ?_ _); rotate_left; focus ((try simp) <;> omega)) | ((with_reducible refine Below.trans ?_ (Below.mono (by assumption) ?_)); rotate_left; focus ((try simp) <;> omega))))⟩

end Go.Proofs.Ytebpdoehjgkkcaa
