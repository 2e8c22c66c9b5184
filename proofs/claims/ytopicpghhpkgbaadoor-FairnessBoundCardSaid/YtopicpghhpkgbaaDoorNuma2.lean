/-
  The walks of the arithmetic layer: the reference's products; comparisons of products.
-/
import Derived.Test.YtopicpghhpkgbaaDoorNuma1


namespace Go.Proofs.YtopicpghhpkgbaaDoor.Num
open Go.RowKit
attribute [local go_sem] and32 or32
attribute [local go_sem ↓] neq_half

theorem blk_at {W w1 : World} (hb : Below W.heap.size W w1) (g : Nat) (hg : g < W.heap.size) : (∀ o, w1.cell? ⟨g, o, none⟩ = W.cell? ⟨g, o, none⟩) ∧ (∀ o, w1.frozen? ⟨g, o, none⟩ = W.frozen? ⟨g, o, none⟩) :=
  ⟨fun o => hb.cell (p := ⟨g, o, none⟩) hg, fun o => hb.frozen (p := ⟨g, o, none⟩) hg⟩

set_option maxHeartbeats 400000 in
theorem rsize_any (n : Int) (h1 : -9223372036854775808 ≤ n) (h2 : n ≤ 9223372036854775807) (w : World) :
    Calls Tryd.prog 71 #[.int .i64 n] w fun e w' => e = .returned (.int .u64 (sz n)) ∧ w = w' := by
  go_enter Tryd.func71, Tryd.ntmps71
  go_wp2
  all_goals
    go_ret
    refine ⟨ret_int ?_, rfl⟩
    unfold sz
  · rw [if_pos ‹_›]
    try simp only [wrap_u64]
    omega
  · rw [if_neg (by omega)]

/-- The product as the reference has it. -/
def rV (a b : Int) : Value := .agg #[.bool (pN a b), .int .u64 (pH a b), .int .u64 (pL a b)]

set_option maxHeartbeats 800000 in
theorem rmul_any (a b : Int) (ha : -9223372036854775808 ≤ a) (ha2 : a ≤ 9223372036854775807) (hb : -9223372036854775808 ≤ b) (hb2 : b ≤ 9223372036854775807) (w : World) :
    Calls Tryd.prog 59 #[.int .i64 a, .int .i64 b] w fun e w' => e = .returned (rV a b) ∧ Below w.heap.size w w' := by
  obtain ⟨x1, x2⟩ := sz_bd ha ha2
  obtain ⟨y1, y2⟩ := sz_bd hb hb2
  obtain ⟨xh, hxh⟩ : ∃ xh, sz a / 4294967296 = xh := ⟨_, rfl⟩
  obtain ⟨xl, hxl⟩ : ∃ xl, sz a % 4294967296 = xl := ⟨_, rfl⟩
  obtain ⟨yh, hyh⟩ : ∃ yh, sz b / 4294967296 = yh := ⟨_, rfl⟩
  obtain ⟨yl, hyl⟩ : ∃ yl, sz b % 4294967296 = yl := ⟨_, rfl⟩
  obtain ⟨p1, p2⟩ := prod32 (x := xl) (y := yl) (by omega) (by omega) (by omega) (by omega)
  obtain ⟨q1, q2⟩ := prod32 (x := xh) (y := yl) (by omega) (by omega) (by omega) (by omega)
  obtain ⟨r1, r2⟩ := prod32 (x := xl) (y := yh) (by omega) (by omega) (by omega) (by omega)
  obtain ⟨s1, s2⟩ := prod32 (x := xh) (y := yh) (by omega) (by omega) (by omega) (by omega)
  have hh := Lib.hid (halves hxh hxl hyh hyl)
  have hp : 0 ≤ pP a b := Int.mul_nonneg x1 y1
  have hn : pN a b = (decide (¬ (a < 0 ↔ b < 0)) && (((xh * yh + (xh * yl + xl * yl / 4294967296) / 4294967296 + (xl * yh + (xh * yl + xl * yl / 4294967296) % 4294967296) / 4294967296) != 0) || (((xl * yh + (xh * yl + xl * yl / 4294967296)) % 4294967296 * 4294967296 + xl * yl % 4294967296) != 0))) := by
    rw [hh.out.1, hh.out.2]
    unfold pN pP at *
    rw [Bool.eq_iff_iff]
    simp only [Bool.and_eq_true, decide_eq_true_eq, Bool.or_eq_true, bne_iff_ne, ne_eq]
    refine and_congr Iff.rfl ?_
    omega
  replace hn := Lib.hid hn
  by_cases hs : a < 0 ↔ b < 0
  · go_enter Tryd.func59, Tryd.ntmps59
    go_wp2_with (first | (go_at_call 71; go_must (refine (rsize_any _ (by assumption) (by assumption) _).mono ?_; rintro e w' ⟨rfl, rfl⟩)))
    refine bodyPost_ret (v := .agg #[.bool false, .int .u64 (xh * yh + (xh * yl + xl * yl / 4294967296) / 4294967296 + (xl * yh + (xh * yl + xl * yl / 4294967296) % 4294967296) / 4294967296), .int .u64 ((xl * yh + (xh * yl + xl * yl / 4294967296)) % 4294967296 * 4294967296 + xl * yl % 4294967296)]) (by simp [results, Tryd.results59, go_sem]) rfl ⟨?_, (by repeat (first | (with_reducible exact Below.refl _ _) | (with_reducible refine Below.drew ?_) | ((with_reducible refine Below.alloc ?_ ?_ _); rotate_left; focus ((try simp) <;> omega)) | ((with_reducible refine Below.setCell ?_ ?_ _); rotate_left; focus ((try simp) <;> omega)) | ((with_reducible refine Below.trans ?_ (Below.mono (by assumption) ?_)); rotate_left; focus ((try simp) <;> omega))))⟩
    have hb' : pN a b = false := by rw [hn.out]; simp [hs]
    unfold rV
    rw [hb', hh.out.1, hh.out.2]
    rfl
  · rcases h0 : ((xh * yh + (xh * yl + xl * yl / 4294967296) / 4294967296 + (xl * yh + (xh * yl + xl * yl / 4294967296) % 4294967296) / 4294967296) != 0) with _ | _
    · rcases l0 : (((xl * yh + (xh * yl + xl * yl / 4294967296)) % 4294967296 * 4294967296 + xl * yl % 4294967296) != 0) with _ | _
      · go_enter Tryd.func59, Tryd.ntmps59
        go_wp2_with (first | (go_at_call 71; go_must (refine (rsize_any _ (by assumption) (by assumption) _).mono ?_; rintro e w' ⟨rfl, rfl⟩)))
        refine bodyPost_ret (v := .agg #[.bool false, .int .u64 (xh * yh + (xh * yl + xl * yl / 4294967296) / 4294967296 + (xl * yh + (xh * yl + xl * yl / 4294967296) % 4294967296) / 4294967296), .int .u64 ((xl * yh + (xh * yl + xl * yl / 4294967296)) % 4294967296 * 4294967296 + xl * yl % 4294967296)]) (by simp [results, Tryd.results59, go_sem]) rfl ⟨?_, (by repeat (first | (with_reducible exact Below.refl _ _) | (with_reducible refine Below.drew ?_) | ((with_reducible refine Below.alloc ?_ ?_ _); rotate_left; focus ((try simp) <;> omega)) | ((with_reducible refine Below.setCell ?_ ?_ _); rotate_left; focus ((try simp) <;> omega)) | ((with_reducible refine Below.trans ?_ (Below.mono (by assumption) ?_)); rotate_left; focus ((try simp) <;> omega))))⟩
        have hb' : pN a b = false := by rw [hn.out]; simp [hs, h0, l0]
        unfold rV
        rw [hb', hh.out.1, hh.out.2]
        rfl
      · go_enter Tryd.func59, Tryd.ntmps59
        go_wp2_with (first | (go_at_call 71; go_must (refine (rsize_any _ (by assumption) (by assumption) _).mono ?_; rintro e w' ⟨rfl, rfl⟩)))
        refine bodyPost_ret (v := .agg #[.bool true, .int .u64 (xh * yh + (xh * yl + xl * yl / 4294967296) / 4294967296 + (xl * yh + (xh * yl + xl * yl / 4294967296) % 4294967296) / 4294967296), .int .u64 ((xl * yh + (xh * yl + xl * yl / 4294967296)) % 4294967296 * 4294967296 + xl * yl % 4294967296)]) (by simp [results, Tryd.results59, go_sem, hs]) rfl ⟨?_, (by repeat (first | (with_reducible exact Below.refl _ _) | (with_reducible refine Below.drew ?_) | ((with_reducible refine Below.alloc ?_ ?_ _); rotate_left; focus ((try simp) <;> omega)) | ((with_reducible refine Below.setCell ?_ ?_ _); rotate_left; focus ((try simp) <;> omega)) | ((with_reducible refine Below.trans ?_ (Below.mono (by assumption) ?_)); rotate_left; focus ((try simp) <;> omega))))⟩
        have hb' : pN a b = true := by rw [hn.out]; simp [hs, h0, l0]
        unfold rV
        rw [hb', hh.out.1, hh.out.2]
        rfl
    · go_enter Tryd.func59, Tryd.ntmps59
      go_wp2_with (first | (go_at_call 71; go_must (refine (rsize_any _ (by assumption) (by assumption) _).mono ?_; rintro e w' ⟨rfl, rfl⟩)))
      refine bodyPost_ret (v := .agg #[.bool true, .int .u64 (xh * yh + (xh * yl + xl * yl / 4294967296) / 4294967296 + (xl * yh + (xh * yl + xl * yl / 4294967296) % 4294967296) / 4294967296), .int .u64 ((xl * yh + (xh * yl + xl * yl / 4294967296)) % 4294967296 * 4294967296 + xl * yl % 4294967296)]) (by simp [results, Tryd.results59, go_sem, hs]) rfl ⟨?_, (by repeat (first | (with_reducible exact Below.refl _ _) | (with_reducible refine Below.drew ?_) | ((with_reducible refine Below.alloc ?_ ?_ _); rotate_left; focus ((try simp) <;> omega)) | ((with_reducible refine Below.setCell ?_ ?_ _); rotate_left; focus ((try simp) <;> omega)) | ((with_reducible refine Below.trans ?_ (Below.mono (by assumption) ?_)); rotate_left; focus ((try simp) <;> omega))))⟩
      have hb' : pN a b = true := by rw [hn.out]; simp [hs, h0]
      unfold rV
      rw [hb', hh.out.1, hh.out.2]
      rfl

/-- Whether one pair of halves is smaller than another. -/
def smB (h l h' l' : Int) : Bool := decide (h < h' ∨ h = h' ∧ l < l')

set_option maxHeartbeats 400000 in
theorem smaller_any (h l h' l' : Int) (n n' : Bool) (w : World) :
    Calls Tryd.prog 88 #[.agg #[.int .u64 h, .int .u64 l, .bool n], .agg #[.int .u64 h', .int .u64 l', .bool n']] w fun e w' => e = .returned (.bool (smB h l h' l')) ∧ Bel w.heap.size w w' := by
  by_cases hh : h = h'
  · subst hh
    go_enter Tryd.func88, Tryd.ntmps88
    go_wp2_with fail
    go_ret
    refine ⟨ret_bool ?_, (by repeat (first | (with_reducible exact Bel.refl _ _) | (with_reducible refine Bel.drew ?_) | (with_reducible refine Bel.drewN ?_ _) | ((with_reducible refine Bel.alloc ?_ ?_ _); rotate_left; focus ((try simp) <;> omega)) | ((with_reducible refine Bel.setCell ?_ ?_ _); rotate_left; focus ((try simp) <;> omega)) | ((with_reducible refine Bel.trans ?_ (Bel.mono (by assumption) ?_)); rotate_left; focus ((try simp) <;> omega))))⟩
    unfold smB
    rw [Bool.eq_iff_iff]
    simp
    try omega
  · have e1 : (h != h') = true := by simpa using hh
    go_enter Tryd.func88, Tryd.ntmps88
    go_wp2_with fail
    go_ret
    refine ⟨ret_bool ?_, (by repeat (first | (with_reducible exact Bel.refl _ _) | (with_reducible refine Bel.drew ?_) | (with_reducible refine Bel.drewN ?_ _) | ((with_reducible refine Bel.alloc ?_ ?_ _); rotate_left; focus ((try simp) <;> omega)) | ((with_reducible refine Bel.setCell ?_ ?_ _); rotate_left; focus ((try simp) <;> omega)) | ((with_reducible refine Bel.trans ?_ (Bel.mono (by assumption) ?_)); rotate_left; focus ((try simp) <;> omega))))⟩
    unfold smB
    rw [Bool.eq_iff_iff]
    simp
    try omega
/-- Whether one product is less than another. -/
def lsB (n : Bool) (h l : Int) (n' : Bool) (h' l' : Int) : Bool := if (n != n') = true then n else if n = true then smB h' l' h l else smB h l h' l'

set_option maxHeartbeats 400000 in
theorem less_any (h l h' l' : Int) (n n' : Bool) (w : World) :
    Calls Tryd.prog 67 #[.agg #[.int .u64 h, .int .u64 l, .bool n], .agg #[.int .u64 h', .int .u64 l', .bool n']] w fun e w' => e = .returned (.bool (lsB n h l n' h' l')) ∧ Bel w.heap.size w w' := by
  cases n <;> cases n'
  all_goals
    go_enter Tryd.func67, Tryd.ntmps67
    go_wp2_with (first | (go_at_call 88; go_must (refine (smaller_any _ _ _ _ _ _ _).mono ?_; rintro e w1 ⟨rfl, hb1⟩; have hz1 := hb1.size; (try simp at hz1); obtain ⟨hc1, hf1⟩ := blk_at hb1.toBelow w.heap.size (by (try simp) <;> omega); obtain ⟨hd1, he1⟩ := blk_at hb1.toBelow (w.heap.size + 1) (by (try simp) <;> omega))))
    go_ret
    exact ⟨rfl, (by repeat (first | (with_reducible exact Bel.refl _ _) | (with_reducible refine Bel.drew ?_) | (with_reducible refine Bel.drewN ?_ _) | ((with_reducible refine Bel.alloc ?_ ?_ _); rotate_left; focus ((try simp) <;> omega)) | ((with_reducible refine Bel.setCell ?_ ?_ _); rotate_left; focus ((try simp) <;> omega)) | ((with_reducible refine Bel.trans ?_ (Bel.mono (by assumption) ?_)); rotate_left; focus ((try simp) <;> omega))))⟩

set_option maxHeartbeats 400000 in
theorem rbelow_any (h l h' l' : Int) (n n' : Bool) (w : World) :
    Calls Tryd.prog 70 #[.agg #[.bool n, .int .u64 h, .int .u64 l], .agg #[.bool n', .int .u64 h', .int .u64 l']] w fun e w' => e = .returned (.bool (smB h l h' l')) ∧ Below w.heap.size w w' := by
  by_cases h1 : h < h'
  · go_enter Tryd.func70, Tryd.ntmps70
    go_wp2_with fail
    go_ret
    exact ⟨ret_bool (by unfold smB; simp [h1]), (by repeat (first | (with_reducible exact Below.refl _ _) | (with_reducible refine Below.drew ?_) | ((with_reducible refine Below.alloc ?_ ?_ _); rotate_left; focus ((try simp) <;> omega)) | ((with_reducible refine Below.setCell ?_ ?_ _); rotate_left; focus ((try simp) <;> omega)) | ((with_reducible refine Below.trans ?_ (Below.mono (by assumption) ?_)); rotate_left; focus ((try simp) <;> omega))))⟩
  · by_cases h2 : h = h'
    · subst h2
      go_enter Tryd.func70, Tryd.ntmps70
      go_wp2_with fail
      go_ret
      exact ⟨ret_bool (by unfold smB; simp), (by repeat (first | (with_reducible exact Below.refl _ _) | (with_reducible refine Below.drew ?_) | ((with_reducible refine Below.alloc ?_ ?_ _); rotate_left; focus ((try simp) <;> omega)) | ((with_reducible refine Below.setCell ?_ ?_ _); rotate_left; focus ((try simp) <;> omega)) | ((with_reducible refine Below.trans ?_ (Below.mono (by assumption) ?_)); rotate_left; focus ((try simp) <;> omega))))⟩
    · have e1 : (h == h') = false := by simpa using h2
      go_enter Tryd.func70, Tryd.ntmps70
      go_wp2_with fail
      go_ret
      exact ⟨ret_bool (by unfold smB; simp; omega), (by repeat (first | (with_reducible exact Below.refl _ _) | (with_reducible refine Below.drew ?_) | ((with_reducible refine Below.alloc ?_ ?_ _); rotate_left; focus ((try simp) <;> omega)) | ((with_reducible refine Below.setCell ?_ ?_ _); rotate_left; focus ((try simp) <;> omega)) | ((with_reducible refine Below.trans ?_ (Below.mono (by assumption) ?_)); rotate_left; focus ((try simp) <;> omega))))⟩

set_option maxHeartbeats 400000 in
theorem rless_any (h l h' l' : Int) (n n' : Bool) (w : World) :
    Calls Tryd.prog 58 #[.agg #[.bool n, .int .u64 h, .int .u64 l], .agg #[.bool n', .int .u64 h', .int .u64 l']] w fun e w' => e = .returned (.bool (lsB n h l n' h' l')) ∧ Below w.heap.size w w' := by
  cases n <;> cases n'
  all_goals
    go_enter Tryd.func58, Tryd.ntmps58
    go_wp2_with (first | (go_at_call 70; go_must (refine (rbelow_any _ _ _ _ _ _ _).mono ?_; rintro e w1 ⟨rfl, hb1⟩; have hz1 := hb1.size; (try simp at hz1); obtain ⟨hc1, hf1⟩ := blk_at hb1 w.heap.size (by (try simp) <;> omega); obtain ⟨hd1, he1⟩ := blk_at hb1 (w.heap.size + 1) (by (try simp) <;> omega))))
    go_ret
    exact ⟨rfl, (by repeat (first | (with_reducible exact Below.refl _ _) | (with_reducible refine Below.drew ?_) | ((with_reducible refine Below.alloc ?_ ?_ _); rotate_left; focus ((try simp) <;> omega)) | ((with_reducible refine Below.setCell ?_ ?_ _); rotate_left; focus ((try simp) <;> omega)) | ((with_reducible refine Below.trans ?_ (Below.mono (by assumption) ?_)); rotate_left; focus ((try simp) <;> omega))))⟩
end Go.Proofs.YtopicpghhpkgbaaDoor.Num
